/- The functions' evaluated forms, each a proved summary. Conditions: none. -/
import Derived.Test.YtmnbmponjhglcaaPeF2
namespace Go.Proofs.Ytmnbmponjhglcaa.Pe
open Go Go.RowKit Go.Proofs Vm
set_option linter.unusedVariables false
set_option linter.unusedSimpArgs false
set_option maxRecDepth 100000
/-! laws.markVerdictS -/
def F_laws_markVerdictS_L_B0 {ρ : Type} (fu : Nat) (a0_0 : Nat) (on0_3 : Nat) (k0 : Int → (Nat → S_impl_Verdict) → Option ρ) (k1_1 : Int) (i5_2 : Int) (of0_4 : (Nat → S_impl_Verdict)) (go : Int → Int → (Nat → S_impl_Verdict) → Option ρ) : Option ρ :=
  (bif (decide (i5_2 < ((a0_0 : Nat) : Int))) then ((bif (decide (0 ≤ i5_2) && decide ((Int.toNat i5_2) < a0_0)) then some () else none : Option Unit).bind fun _ => ((bif (decide (0 ≤ i5_2) &&
    decide ((Int.toNat i5_2) < a0_0)) then some () else none : Option Unit).bind fun _ => ((bif (decide (0 ≤ i5_2) && decide ((Int.toNat i5_2) < a0_0)) then some () else none : Option Unit).bind fun _ =>
    ((bif (decide (0 ≤ i5_2) && decide ((Int.toNat i5_2) < a0_0)) then some () else none : Option Unit).bind fun _ => (go (IntKind.wrap .i64 ((IntKind.wrap .i64 ((IntKind.wrap .i64 ((IntKind.wrap .i64 (k1_1 + 1)) + 1)) + 1)) + 1)) (IntKind.wrap .i64 (i5_2 + 1)) (upd_impl_Verdict_3_1 (upd_impl_Verdict_2_1 (upd_impl_Verdict_1_1 (upd_impl_Verdict_0_1 of0_4 (Int.toNat i5_2) k1_1) (Int.toNat i5_2) (IntKind.wrap .i64 (k1_1 + 1))) (Int.toNat i5_2) ((Int.tmod (IntKind.wrap .i64 ((IntKind.wrap .i64 (k1_1 + 1)) + 1)) 3) == 0)) (Int.toNat i5_2) (IntKind.wrap .i64 ((IntKind.wrap .i64 ((IntKind.wrap .i64 (k1_1 + 1)) + 1)) + 1)))))))) else
    (k0 k1_1 of0_4))
def F_laws_markVerdictS_L (fu : Nat) (a_0_0 : Nat) (k_1_1 : Int) (rn0 : Nat) (rf0 : (Nat → S_impl_Verdict)) : Option (Int × (Nat × (Nat → S_impl_Verdict))) :=
  (L (fun w0 go0 => F_laws_markVerdictS_L_B0 fu a_0_0 rn0 (fun z209 z210 => (some (z209, (rn0, z210)))) w0.1 w0.2.1 w0.2.2 (fun q0 q1 q2 => go0 (q0, q1, q2))) fu ((k_1_1, 0, rf0) : Int × Int × (Nat → S_impl_Verdict)))
def pc_b7 (fu : Nat) : Pc RT den := ⟨pcf0, fun _ => false, fun _ => false, pcd0, pcx0⟩
def msk_b7 (b : Nat) : List Nat := match b with | 0 => [2, 3, 4, 6, 7, 8, 9, 10, 11, 12, 13, 14, 15, 16, 17, 18, 19, 20, 21, 22, 23, 24, 25, 26, 27, 28, 29, 30, 31, 32, 33, 34, 35, 36, 37, 38, 39, 40, 41, 42] | 100000 => [0, 2, 3, 5, 6, 7, 8, 9, 10, 11, 12, 13, 14, 15, 16, 17, 18, 19, 20, 21, 22, 23, 24, 25, 26, 27, 28, 29, 30, 31, 32, 33, 34, 35, 36, 37, 38, 39, 40, 41, 42] | _ => []
def ps_b7_0 : List (Pat RT) := [.flat (.os 0), .flat (.int .i64), .flat .q, .flat .q, .flat .q, .flat (.int .i64), .flat .q, .flat .q, .flat .q, .flat .q, .flat .q, .flat .q, .flat .q, .flat .q, .flat .q, .flat .q, .flat .q, .flat .q, .flat .q, .flat .q, .flat .q, .flat .q, .flat .q, .flat .q, .flat .q, .flat .q, .flat .q, .flat .q, .flat .q, .flat .q, .flat .q, .flat .q, .flat .q, .flat .q, .flat .q, .flat .q, .flat .q, .flat .q, .flat .q, .flat .q, .flat .q, .flat .q, .flat .q]
def os_b7_0 : List (OP RT) := [.row true .impl_Verdict]
def conv_b7_0 (r : Raw den ps_b7_0 os_b7_0) : (Nat × Nat) × (Int × Int × (Nat → S_impl_Verdict)) := ((r.1.1, r.2.1.1), (r.1.2.1, r.1.2.2.2.2.2.1, r.2.1.2))
def back_b7_0 (c : Nat × Nat) (w : Int × Int × (Nat → S_impl_Verdict)) : St RT den := ⟨[(.os 0 c.1), (.int .i64 w.1), .q, .q, .q, (.int .i64 w.2.1), .q, .q, .q, .q, .q, .q, .q, .q, .q, .q, .q, .q, .q, .q, .q, .q, .q, .q, .q, .q, .q, .q, .q, .q, .q, .q, .q, .q, .q, .q, .q, .q, .q, .q, .q, .q, .q], [(.row true .impl_Verdict c.2 w.2.2)]⟩
def Bk_b7_0 {ρ : Type} (fu : Nat) (c : Nat × Nat) (k : Ex → St RT den → Option ρ) (w : Int × Int × (Nat → S_impl_Verdict)) (go : (Int × Int × (Nat → S_impl_Verdict)) → Option ρ) : Option ρ := F_laws_markVerdictS_L_B0 fu c.1 c.2 (fun a0 a1 => k (.exit 0) ⟨[.q, (.int .i64 a0), .q, .q, .q, .q, .q, .q, .q, .q, .q, .q, .q, .q, .q, .q, .q, .q, .q, .q, .q, .q, .q, .q, .q, .q, .q, .q, .q, .q, .q, .q, .q, .q, .q, .q, .q, .q, .q, .q, .q, .q, .q], [(.row true .impl_Verdict c.2 a1)]⟩) w.1 w.2.1 w.2.2 (fun q0 q1 q2 => go (q0, q1, q2))
def lp_b7 (fu : Nat) : Lp RT den (Int × (Nat × (Nat → S_impl_Verdict))) := fun b s k => match b with | 0 => handle ps_b7_0 os_b7_0 conv_b7_0 (Bk_b7_0 fu) fu s k | _ => none
def out_b7 (d : D RT den) (os : List (Ob RT den)) : Option (Int × (Nat × (Nat → S_impl_Verdict))) := match d, os with | .int .i64 a0_0, [.row true .impl_Verdict n0 f0] => some (a0_0, (n0, f0)) | _, _ => none
def enc_b7 (y : Int × (Nat × (Nat → S_impl_Verdict))) : D RT den × List (Ob RT den) := ((.int .i64 y.1), [(.row true .impl_Verdict y.2.1 y.2.2)])
theorem out_b7_enc (d : D RT den) (os : List (Ob RT den)) (y : Int × (Nat × (Nat → S_impl_Verdict))) (h : out_b7 d os = some y) : (unh 1 d).1 = (enc_b7 y).1 ∧ os ++ (unh 1 d).2 = (enc_b7 y).2 := by
  unfold out_b7 at h
  split at h
  · cases h; exact ⟨rfl, rfl⟩
  · cases h
theorem ev_b7 (fu : Nat) (a_0_0 : Nat) (k_1_1 : Int) (rn0 : Nat) (rf0 : (Nat → S_impl_Verdict)) : evFunX E false (pc_b7 fu) msk_b7 (lp_b7 fu) out_b7 26 [(.os 0 a_0_0), (.int .i64 k_1_1)] [(.row true .impl_Verdict rn0 rf0)] = F_laws_markVerdictS_L fu a_0_0 k_1_1 rn0 rf0 := by kernel_rfl
noncomputable def body_b7 : Code := Try.f26.body.getD .skip
noncomputable def lc_b7_0 : Code := ((loops 0 body_b7).getD 0 (0, .skip)).2
theorem round_b7_0 (fu : Nat) (it : St RT den → Option (Int × (Nat × (Nat → S_impl_Verdict)))) (k : Ex → St RT den → Option (Int × (Nat × (Nat → S_impl_Verdict)))) c w : evCode E (pc_b7 fu) msk_b7 (lp_b7 fu) 0 lc_b7_0 (back_b7_0 c w) (after (msk_b7 0) (msk_b7 100000) 1 it k) = Bk_b7_0 fu c k w (fun w => it (back_b7_0 c w)) := by kernel_rfl
theorem lpok_b7_0 (fu : Nat) : ∀ s k r, lp_b7 fu 0 s k = some r → ∃ fuel, iter (msk_b7 0) (msk_b7 100000) s.objs.length (evCode E (pc_b7 fu) msk_b7 (lp_b7 fu) 0 lc_b7_0) fuel s k = some r :=
  handle_ok (ps := ps_b7_0) (os := os_b7_0) (conv := conv_b7_0) (B := Bk_b7_0 fu) (fu := fu) back_b7_0 (fun raw => by kernel_rfl) 1 (fun c w => by kernel_rfl) (round_b7_0 fu)
theorem lpok_b7 (fu : Nat) : LpOk E (pc_b7 fu) msk_b7 (lp_b7 fu) (loops 0 body_b7) := loop_all 1 (by kernel_rfl) fun i hi => match i, hi with
  | 0, _ => by
    have h : (loops 0 body_b7).getD 0 (0, .skip) = (0, lc_b7_0) := by kernel_rfl
    rw [h]; exact lpok_b7_0 fu
  | i + 1, hi => absurd hi (by omega)
def S_b7 (fu : Nat) (xs : List (D RT den)) (ins : List (Ob RT den)) : Option (OutX RT den) := match xs, ins with | [.os 0 a0_0, .int .i64 a1_0], [.row true .impl_Verdict rn0 rf0] => some ⟨Int × (Nat × (Nat → S_impl_Verdict)), F_laws_markVerdictS_L fu a0_0 a1_0 rn0 rf0, enc_b7⟩ | _, _ => none
theorem goodv_b7 (fu : Nat) (a_0_0 : Nat) (k_1_1 : Int) (rn0 : Nat) (rf0 : (Nat → S_impl_Verdict)) (y : Int × (Nat × (Nat → S_impl_Verdict))) (hy : F_laws_markVerdictS_L fu a_0_0 k_1_1 rn0 rf0 = some y) : GoodX E Try.prog 26 [(.os 0 a_0_0), (.int .i64 k_1_1)] [(.row true .impl_Verdict rn0 rf0)] (enc_b7 y).1 (enc_b7 y).2 :=
  funX_good (ke := false) E_ok (pc_good (pc := pc_b7 fu) hpc0 hpx0) (fn := Try.f26) (c := body_b7) (out := out_b7) (y := y) (by kernel_rfl) (by kernel_rfl) (by kernel_rfl) (lpok_b7 fu) (by kernel_rfl) (Nat.le_refl _) (fun d os hd => out_b7_enc d os _ hd) ((ev_b7 fu a_0_0 k_1_1 rn0 rf0).trans hy)
theorem good_b7 (fu : Nat) : ∀ xs ins o, S_b7 fu xs ins = some o → ∀ y, o.x = some y → GoodX E Try.prog 26 xs ins (o.g y).1 (o.g y).2 := by
  intro xs ins o h y hy
  unfold S_b7 at h
  split at h
  · rename_i a0_0 a1_0 rn0 rf0
    cases h
    exact goodv_b7 fu a0_0 a1_0 rn0 rf0 y hy
  · cases h

/-! laws.markCmdS -/
def F_laws_markCmdS_L_B0 {ρ : Type} (fu : Nat) (a0_0 : Nat) (on0_3 : Nat) (k0 : Int → (Nat → S_impl_Cmd) → Option ρ) (k1_1 : Int) (i5_2 : Int) (of0_4 : (Nat → S_impl_Cmd)) (go : Int → Int → (Nat → S_impl_Cmd) → Option ρ) : Option ρ :=
  (bif (decide (i5_2 < ((a0_0 : Nat) : Int))) then ((bif (decide (0 ≤ i5_2) && decide ((Int.toNat i5_2) < a0_0)) then some () else none : Option Unit).bind fun _ => ((bif (decide (0 ≤ i5_2) &&
    decide ((Int.toNat i5_2) < a0_0)) then some () else none : Option Unit).bind fun _ => ((bif (decide (0 ≤ i5_2) && decide ((Int.toNat i5_2) < a0_0)) then some () else none : Option Unit).bind fun _ =>
    ((bif (decide (0 ≤ i5_2) && decide ((Int.toNat i5_2) < a0_0)) then some () else none : Option Unit).bind fun _ => ((bif (decide (0 ≤ i5_2) && decide ((Int.toNat i5_2) < a0_0)) then
    some () else none : Option Unit).bind fun _ => ((bif (decide (0 ≤ i5_2) && decide ((Int.toNat i5_2) < a0_0)) then some () else none : Option Unit).bind fun _ => (go (IntKind.wrap .i64 ((IntKind.wrap .i64 ((IntKind.wrap .i64 ((IntKind.wrap .i64 ((IntKind.wrap .i64 ((IntKind.wrap .i64 (k1_1 + 1)) + 1)) + 1)) + 1)) + 1)) + 1)) (IntKind.wrap .i64 (i5_2 + 1)) (upd_impl_Cmd_5_1 (upd_impl_Cmd_4_1 (upd_impl_Cmd_3_1 (upd_impl_Cmd_2_1 (upd_impl_Cmd_1_1 (upd_impl_Cmd_0_1 of0_4 (Int.toNat i5_2) k1_1) (Int.toNat i5_2) (IntKind.wrap .i64 (k1_1 + 1))) (Int.toNat i5_2) (IntKind.wrap .i64 ((IntKind.wrap .i64 (k1_1 + 1)) + 1))) (Int.toNat i5_2) (IntKind.wrap .i64 ((IntKind.wrap .i64 ((IntKind.wrap .i64 (k1_1 + 1)) + 1)) + 1))) (Int.toNat i5_2) (IntKind.wrap .i64 ((IntKind.wrap .i64 ((IntKind.wrap .i64 ((IntKind.wrap .i64 (k1_1 + 1)) + 1)) + 1)) + 1))) (Int.toNat i5_2) (IntKind.wrap .i64 ((IntKind.wrap .i64 ((IntKind.wrap .i64 ((IntKind.wrap .i64 ((IntKind.wrap .i64 (k1_1 + 1)) + 1)) + 1)) + 1)) + 1)))))))))) else
    (k0 k1_1 of0_4))
def F_laws_markCmdS_L (fu : Nat) (a_0_0 : Nat) (k_1_1 : Int) (rn0 : Nat) (rf0 : (Nat → S_impl_Cmd)) : Option (Int × (Nat × (Nat → S_impl_Cmd))) :=
  (L (fun w0 go0 => F_laws_markCmdS_L_B0 fu a_0_0 rn0 (fun z214 z215 => (some (z214, (rn0, z215)))) w0.1 w0.2.1 w0.2.2 (fun q0 q1 q2 => go0 (q0, q1, q2))) fu ((k_1_1, 0, rf0) : Int × Int × (Nat → S_impl_Cmd)))
def pc_b8 (fu : Nat) : Pc RT den := ⟨pcf0, fun _ => false, fun _ => false, pcd0, pcx0⟩
def msk_b8 (b : Nat) : List Nat := match b with | 0 => [2, 3, 4, 6, 7, 8, 9, 10, 11, 12, 13, 14, 15, 16, 17, 18, 19, 20, 21, 22, 23, 24, 25, 26, 27, 28, 29, 30, 31, 32, 33, 34, 35, 36, 37, 38, 39, 40, 41, 42, 43, 44, 45, 46, 47, 48, 49, 50, 51, 52, 53, 54] | 100000 => [0, 2, 3, 5, 6, 7, 8, 9, 10, 11, 12, 13, 14, 15, 16, 17, 18, 19, 20, 21, 22, 23, 24, 25, 26, 27, 28, 29, 30, 31, 32, 33, 34, 35, 36, 37, 38, 39, 40, 41, 42, 43, 44, 45, 46, 47, 48, 49, 50, 51, 52, 53, 54] | _ => []
def ps_b8_0 : List (Pat RT) := [.flat (.os 0), .flat (.int .i64), .flat .q, .flat .q, .flat .q, .flat (.int .i64), .flat .q, .flat .q, .flat .q, .flat .q, .flat .q, .flat .q, .flat .q, .flat .q, .flat .q, .flat .q, .flat .q, .flat .q, .flat .q, .flat .q, .flat .q, .flat .q, .flat .q, .flat .q, .flat .q, .flat .q, .flat .q, .flat .q, .flat .q, .flat .q, .flat .q, .flat .q, .flat .q, .flat .q, .flat .q, .flat .q, .flat .q, .flat .q, .flat .q, .flat .q, .flat .q, .flat .q, .flat .q, .flat .q, .flat .q, .flat .q, .flat .q, .flat .q, .flat .q, .flat .q, .flat .q, .flat .q, .flat .q, .flat .q, .flat .q]
def os_b8_0 : List (OP RT) := [.row true .impl_Cmd]
def conv_b8_0 (r : Raw den ps_b8_0 os_b8_0) : (Nat × Nat) × (Int × Int × (Nat → S_impl_Cmd)) := ((r.1.1, r.2.1.1), (r.1.2.1, r.1.2.2.2.2.2.1, r.2.1.2))
def back_b8_0 (c : Nat × Nat) (w : Int × Int × (Nat → S_impl_Cmd)) : St RT den := ⟨[(.os 0 c.1), (.int .i64 w.1), .q, .q, .q, (.int .i64 w.2.1), .q, .q, .q, .q, .q, .q, .q, .q, .q, .q, .q, .q, .q, .q, .q, .q, .q, .q, .q, .q, .q, .q, .q, .q, .q, .q, .q, .q, .q, .q, .q, .q, .q, .q, .q, .q, .q, .q, .q, .q, .q, .q, .q, .q, .q, .q, .q, .q, .q], [(.row true .impl_Cmd c.2 w.2.2)]⟩
def Bk_b8_0 {ρ : Type} (fu : Nat) (c : Nat × Nat) (k : Ex → St RT den → Option ρ) (w : Int × Int × (Nat → S_impl_Cmd)) (go : (Int × Int × (Nat → S_impl_Cmd)) → Option ρ) : Option ρ := F_laws_markCmdS_L_B0 fu c.1 c.2 (fun a0 a1 => k (.exit 0) ⟨[.q, (.int .i64 a0), .q, .q, .q, .q, .q, .q, .q, .q, .q, .q, .q, .q, .q, .q, .q, .q, .q, .q, .q, .q, .q, .q, .q, .q, .q, .q, .q, .q, .q, .q, .q, .q, .q, .q, .q, .q, .q, .q, .q, .q, .q, .q, .q, .q, .q, .q, .q, .q, .q, .q, .q, .q, .q], [(.row true .impl_Cmd c.2 a1)]⟩) w.1 w.2.1 w.2.2 (fun q0 q1 q2 => go (q0, q1, q2))
def lp_b8 (fu : Nat) : Lp RT den (Int × (Nat × (Nat → S_impl_Cmd))) := fun b s k => match b with | 0 => handle ps_b8_0 os_b8_0 conv_b8_0 (Bk_b8_0 fu) fu s k | _ => none
def out_b8 (d : D RT den) (os : List (Ob RT den)) : Option (Int × (Nat × (Nat → S_impl_Cmd))) := match d, os with | .int .i64 a0_0, [.row true .impl_Cmd n0 f0] => some (a0_0, (n0, f0)) | _, _ => none
def enc_b8 (y : Int × (Nat × (Nat → S_impl_Cmd))) : D RT den × List (Ob RT den) := ((.int .i64 y.1), [(.row true .impl_Cmd y.2.1 y.2.2)])
theorem out_b8_enc (d : D RT den) (os : List (Ob RT den)) (y : Int × (Nat × (Nat → S_impl_Cmd))) (h : out_b8 d os = some y) : (unh 1 d).1 = (enc_b8 y).1 ∧ os ++ (unh 1 d).2 = (enc_b8 y).2 := by
  unfold out_b8 at h
  split at h
  · cases h; exact ⟨rfl, rfl⟩
  · cases h
theorem ev_b8 (fu : Nat) (a_0_0 : Nat) (k_1_1 : Int) (rn0 : Nat) (rf0 : (Nat → S_impl_Cmd)) : evFunX E false (pc_b8 fu) msk_b8 (lp_b8 fu) out_b8 80 [(.os 0 a_0_0), (.int .i64 k_1_1)] [(.row true .impl_Cmd rn0 rf0)] = F_laws_markCmdS_L fu a_0_0 k_1_1 rn0 rf0 := by kernel_rfl
noncomputable def body_b8 : Code := Try.f80.body.getD .skip
noncomputable def lc_b8_0 : Code := ((loops 0 body_b8).getD 0 (0, .skip)).2
theorem round_b8_0 (fu : Nat) (it : St RT den → Option (Int × (Nat × (Nat → S_impl_Cmd)))) (k : Ex → St RT den → Option (Int × (Nat × (Nat → S_impl_Cmd)))) c w : evCode E (pc_b8 fu) msk_b8 (lp_b8 fu) 0 lc_b8_0 (back_b8_0 c w) (after (msk_b8 0) (msk_b8 100000) 1 it k) = Bk_b8_0 fu c k w (fun w => it (back_b8_0 c w)) := by kernel_rfl
theorem lpok_b8_0 (fu : Nat) : ∀ s k r, lp_b8 fu 0 s k = some r → ∃ fuel, iter (msk_b8 0) (msk_b8 100000) s.objs.length (evCode E (pc_b8 fu) msk_b8 (lp_b8 fu) 0 lc_b8_0) fuel s k = some r :=
  handle_ok (ps := ps_b8_0) (os := os_b8_0) (conv := conv_b8_0) (B := Bk_b8_0 fu) (fu := fu) back_b8_0 (fun raw => by kernel_rfl) 1 (fun c w => by kernel_rfl) (round_b8_0 fu)
theorem lpok_b8 (fu : Nat) : LpOk E (pc_b8 fu) msk_b8 (lp_b8 fu) (loops 0 body_b8) := loop_all 1 (by kernel_rfl) fun i hi => match i, hi with
  | 0, _ => by
    have h : (loops 0 body_b8).getD 0 (0, .skip) = (0, lc_b8_0) := by kernel_rfl
    rw [h]; exact lpok_b8_0 fu
  | i + 1, hi => absurd hi (by omega)
def S_b8 (fu : Nat) (xs : List (D RT den)) (ins : List (Ob RT den)) : Option (OutX RT den) := match xs, ins with | [.os 0 a0_0, .int .i64 a1_0], [.row true .impl_Cmd rn0 rf0] => some ⟨Int × (Nat × (Nat → S_impl_Cmd)), F_laws_markCmdS_L fu a0_0 a1_0 rn0 rf0, enc_b8⟩ | _, _ => none
theorem goodv_b8 (fu : Nat) (a_0_0 : Nat) (k_1_1 : Int) (rn0 : Nat) (rf0 : (Nat → S_impl_Cmd)) (y : Int × (Nat × (Nat → S_impl_Cmd))) (hy : F_laws_markCmdS_L fu a_0_0 k_1_1 rn0 rf0 = some y) : GoodX E Try.prog 80 [(.os 0 a_0_0), (.int .i64 k_1_1)] [(.row true .impl_Cmd rn0 rf0)] (enc_b8 y).1 (enc_b8 y).2 :=
  funX_good (ke := false) E_ok (pc_good (pc := pc_b8 fu) hpc0 hpx0) (fn := Try.f80) (c := body_b8) (out := out_b8) (y := y) (by kernel_rfl) (by kernel_rfl) (by kernel_rfl) (lpok_b8 fu) (by kernel_rfl) (Nat.le_refl _) (fun d os hd => out_b8_enc d os _ hd) ((ev_b8 fu a_0_0 k_1_1 rn0 rf0).trans hy)
theorem good_b8 (fu : Nat) : ∀ xs ins o, S_b8 fu xs ins = some o → ∀ y, o.x = some y → GoodX E Try.prog 80 xs ins (o.g y).1 (o.g y).2 := by
  intro xs ins o h y hy
  unfold S_b8 at h
  split at h
  · rename_i a0_0 a1_0 rn0 rf0
    cases h
    exact goodv_b8 fu a0_0 a1_0 rn0 rf0 y hy
  · cases h

/-! laws.markCmdsResult -/
def F_laws_markCmdsResult_L (fu : Nat) (a_0_0 : Int) (a_0_1 : Nat) (k_1_2 : Int) (rn0 : Nat) (rf0 : (Nat → S_impl_Cmd)) : Option (Int × (Nat × (Nat → S_impl_Cmd))) :=
  ((F_laws_markCmdS_L fu a_0_1 k_1_2 rn0 rf0).bind fun y216 => (some (y216.1, (y216.2.1, y216.2.2))))
def pcx_b9 (fu : Nat) (f : Nat) (xs : List (D RT den)) (ins : List (Ob RT den)) : Option (OutX RT den) := match f with | 80 => S_b8 fu xs ins | _ => none
def pcd_b9 : Nat → Bool := fun _ => false
def pc_b9 (fu : Nat) : Pc RT den := ⟨pcf0, fun f => match f with | 80 => true | _ => false, fun f => match f with | 80 => true | _ => false, pcd_b9, pcx_b9 fu⟩
def msk_b9 (b : Nat) : List Nat := []
def lp_b9 (fu : Nat) : Lp RT den (Int × (Nat × (Nat → S_impl_Cmd))) := fun b s k => none
def out_b9 (d : D RT den) (os : List (Ob RT den)) : Option (Int × (Nat × (Nat → S_impl_Cmd))) := match d, os with | .int .i64 a0_0, [.row true .impl_Cmd n0 f0] => some (a0_0, (n0, f0)) | _, _ => none
def enc_b9 (y : Int × (Nat × (Nat → S_impl_Cmd))) : D RT den × List (Ob RT den) := ((.int .i64 y.1), [(.row true .impl_Cmd y.2.1 y.2.2)])
theorem out_b9_enc (d : D RT den) (os : List (Ob RT den)) (y : Int × (Nat × (Nat → S_impl_Cmd))) (h : out_b9 d os = some y) : (unh 1 d).1 = (enc_b9 y).1 ∧ os ++ (unh 1 d).2 = (enc_b9 y).2 := by
  unfold out_b9 at h
  split at h
  · cases h; exact ⟨rfl, rfl⟩
  · cases h
theorem ev_b9 (fu : Nat) (a_0_0 : Int) (a_0_1 : Nat) (k_1_2 : Int) (rn0 : Nat) (rf0 : (Nat → S_impl_Cmd)) : evFunX E false (pc_b9 fu) msk_b9 (lp_b9 fu) out_b9 27 [(.agg [(.int .i64 a_0_0), (.os 0 a_0_1)]), (.int .i64 k_1_2)] [(.row true .impl_Cmd rn0 rf0)] = F_laws_markCmdsResult_L fu a_0_0 a_0_1 k_1_2 rn0 rf0 := by kernel_rfl
noncomputable def body_b9 : Code := Try.f27.body.getD .skip
theorem lpok_b9 (fu : Nat) : LpOk E (pc_b9 fu) msk_b9 (lp_b9 fu) (loops 0 body_b9) := by
  have h : loops 0 body_b9 = [] := by kernel_rfl
  rw [h]; intro p hp; cases hp
def S_b9 (fu : Nat) (xs : List (D RT den)) (ins : List (Ob RT den)) : Option (OutX RT den) := match xs, ins with | [.agg [.int .i64 a0_0, .os 0 a0_1], .int .i64 a1_0], [.row true .impl_Cmd rn0 rf0] => some ⟨Int × (Nat × (Nat → S_impl_Cmd)), F_laws_markCmdsResult_L fu a0_0 a0_1 a1_0 rn0 rf0, enc_b9⟩ | _, _ => none
theorem hpx_b9 (fu : Nat) : ∀ f xs ins o, pcx_b9 fu f xs ins = some o → ∀ y, o.x = some y → GoodXD E Try.prog (pcd_b9 f) f xs ins (o.g y).1 (o.g y).2 := by
  intro f xs ins o h
  unfold pcx_b9 at h
  split at h
  · exact good_b8 fu xs ins o h
  · cases h
theorem goodv_b9 (fu : Nat) (a_0_0 : Int) (a_0_1 : Nat) (k_1_2 : Int) (rn0 : Nat) (rf0 : (Nat → S_impl_Cmd)) (y : Int × (Nat × (Nat → S_impl_Cmd))) (hy : F_laws_markCmdsResult_L fu a_0_0 a_0_1 k_1_2 rn0 rf0 = some y) : GoodX E Try.prog 27 [(.agg [(.int .i64 a_0_0), (.os 0 a_0_1)]), (.int .i64 k_1_2)] [(.row true .impl_Cmd rn0 rf0)] (enc_b9 y).1 (enc_b9 y).2 :=
  funX_good (ke := false) E_ok (pc_good (pc := pc_b9 fu) hpc0 (hpx_b9 fu)) (fn := Try.f27) (c := body_b9) (out := out_b9) (y := y) (by kernel_rfl) (by kernel_rfl) (by kernel_rfl) (lpok_b9 fu) (by kernel_rfl) (Nat.le_refl _) (fun d os hd => out_b9_enc d os _ hd) ((ev_b9 fu a_0_0 a_0_1 k_1_2 rn0 rf0).trans hy)
theorem good_b9 (fu : Nat) : ∀ xs ins o, S_b9 fu xs ins = some o → ∀ y, o.x = some y → GoodX E Try.prog 27 xs ins (o.g y).1 (o.g y).2 := by
  intro xs ins o h y hy
  unfold S_b9 at h
  split at h
  · rename_i a0_0 a0_1 a1_0 rn0 rf0
    cases h
    exact goodv_b9 fu a0_0 a0_1 a1_0 rn0 rf0 y hy
  · cases h

/-! laws.szBackendS -/
def F_laws_szBackendS (fu : Nat) (a_0 : (Sl S_impl_Backend)) (left_1 : Int) : Option (Int) :=
  (bif (decide ((IntKind.wrap .i64 (left_1 - ((a_0.n : Nat) : Int))) < 0)) then (some (-1)) else (some (IntKind.wrap .i64 (left_1 - ((a_0.n : Nat) : Int)))))
def pc_b10 (fu : Nat) : Pc RT den := ⟨pcf0, fun _ => false, fun _ => false, pcd0, pcx0⟩
def msk_b10 (b : Nat) : List Nat := []
def lp_b10 (fu : Nat) : Lp RT den (Int) := fun b s k => none
theorem ev_b10 (fu : Nat) (a_0 : (Sl S_impl_Backend)) (left_1 : Int) : evFun E (pc_b10 fu) msk_b10 (lp_b10 fu) out_i64 61 [(.rs a_0.z .impl_Backend a_0.n a_0.f), (.int .i64 left_1)] = F_laws_szBackendS fu a_0 left_1 := by kernel_rfl
noncomputable def body_b10 : Code := Try.f61.body.getD .skip
theorem lpok_b10 (fu : Nat) : LpOk E (pc_b10 fu) msk_b10 (lp_b10 fu) (loops 0 body_b10) := by
  have h : loops 0 body_b10 = [] := by kernel_rfl
  rw [h]; intro p hp; cases hp
def S_b10 (fu : Nat) (xs : List (D RT den)) : Option (Out RT den) := match xs with | [.rs za0_0 .impl_Backend na0_0 fa0_0, .int .i64 a1_0] => some ⟨Int, F_laws_szBackendS fu (⟨za0_0, na0_0, fa0_0⟩ : (Sl S_impl_Backend)) a1_0, enc_i64, fun _ => true⟩ | _ => none
theorem goodv_b10 (fu : Nat) (a_0 : (Sl S_impl_Backend)) (left_1 : Int) (y : Int) (hy : F_laws_szBackendS fu a_0 left_1 = some y) : Good E Try.prog 61 [(.rs a_0.z .impl_Backend a_0.n a_0.f), (.int .i64 left_1)] (enc_i64 y) :=
  fun_good E_ok (pc_good (pc := pc_b10 fu) hpc0 hpx0) (fn := Try.f61) (c := body_b10) (out := out_i64) (y := y) (by kernel_rfl) (by kernel_rfl) (by kernel_rfl) (lpok_b10 fu) (fun d hd => out_i64_enc d _ hd) ((ev_b10 fu a_0 left_1).trans hy)
theorem good_b10 (fu : Nat) : ∀ xs o, S_b10 fu xs = some o → ∀ y, o.x = some y → Good E Try.prog 61 xs (o.g y) := by
  intro xs o h y hy
  unfold S_b10 at h
  split at h
  · rename_i za0_0 na0_0 fa0_0 a1_0
    cases h
    exact goodv_b10 fu (⟨za0_0, na0_0, fa0_0⟩ : (Sl S_impl_Backend)) a1_0 y hy
  · cases h

/-! laws.szInt64S -/
def F_laws_szInt64S (fu : Nat) (a_0 : (Sl Int)) (left_1 : Int) : Option (Int) :=
  (bif (decide ((IntKind.wrap .i64 (left_1 - ((a_0.n : Nat) : Int))) < 0)) then (some (-1)) else (some (IntKind.wrap .i64 (left_1 - ((a_0.n : Nat) : Int)))))
def pc_b11 (fu : Nat) : Pc RT den := ⟨pcf0, fun _ => false, fun _ => false, pcd0, pcx0⟩
def msk_b11 (b : Nat) : List Nat := []
def lp_b11 (fu : Nat) : Lp RT den (Int) := fun b s k => none
theorem ev_b11 (fu : Nat) (a_0 : (Sl Int)) (left_1 : Int) : evFun E (pc_b11 fu) msk_b11 (lp_b11 fu) out_i64 157 [(.rs a_0.z .i64 a_0.n a_0.f), (.int .i64 left_1)] = F_laws_szInt64S fu a_0 left_1 := by kernel_rfl
noncomputable def body_b11 : Code := Try.f157.body.getD .skip
theorem lpok_b11 (fu : Nat) : LpOk E (pc_b11 fu) msk_b11 (lp_b11 fu) (loops 0 body_b11) := by
  have h : loops 0 body_b11 = [] := by kernel_rfl
  rw [h]; intro p hp; cases hp
def S_b11 (fu : Nat) (xs : List (D RT den)) : Option (Out RT den) := match xs with | [.rs za0_0 .i64 na0_0 fa0_0, .int .i64 a1_0] => some ⟨Int, F_laws_szInt64S fu (⟨za0_0, na0_0, fa0_0⟩ : (Sl Int)) a1_0, enc_i64, fun _ => true⟩ | _ => none
theorem goodv_b11 (fu : Nat) (a_0 : (Sl Int)) (left_1 : Int) (y : Int) (hy : F_laws_szInt64S fu a_0 left_1 = some y) : Good E Try.prog 157 [(.rs a_0.z .i64 a_0.n a_0.f), (.int .i64 left_1)] (enc_i64 y) :=
  fun_good E_ok (pc_good (pc := pc_b11 fu) hpc0 hpx0) (fn := Try.f157) (c := body_b11) (out := out_i64) (y := y) (by kernel_rfl) (by kernel_rfl) (by kernel_rfl) (lpok_b11 fu) (fun d hd => out_i64_enc d _ hd) ((ev_b11 fu a_0 left_1).trans hy)
theorem good_b11 (fu : Nat) : ∀ xs o, S_b11 fu xs = some o → ∀ y, o.x = some y → Good E Try.prog 157 xs (o.g y) := by
  intro xs o h y hy
  unfold S_b11 at h
  split at h
  · rename_i za0_0 na0_0 fa0_0 a1_0
    cases h
    exact goodv_b11 fu (⟨za0_0, na0_0, fa0_0⟩ : (Sl Int)) a1_0 y hy
  · cases h

/-! laws.szVip -/
def F_laws_szVip (fu : Nat) (a_0 : S_impl_Vip) (left_1 : Int) : Option (Int) :=
  ((F_laws_szInt64S fu a_0.Names left_1).bind fun y229 => (bif (decide (y229 < 0)) then (some (-1)) else (some y229)))
def pcf_b12 (fu : Nat) (f : Nat) (xs : List (D RT den)) : Option (Out RT den) := match f with | 157 => S_b11 fu xs | _ => none
def pc_b12 (fu : Nat) : Pc RT den := ⟨pcf_b12 fu, fun _ => false, fun _ => false, pcd0, pcx0⟩
def msk_b12 (b : Nat) : List Nat := []
def lp_b12 (fu : Nat) : Lp RT den (Int) := fun b s k => none
theorem ev_b12 (fu : Nat) (a_0 : S_impl_Vip) (left_1 : Int) : evFun E (pc_b12 fu) msk_b12 (lp_b12 fu) out_i64 123 [(.agg [(.int .i64 a_0.Address), (.int .i64 a_0.Port), (.int .i64 a_0.Proto), (.rs a_0.Names.z .i64 a_0.Names.n a_0.Names.f)]), (.int .i64 left_1)] = F_laws_szVip fu a_0 left_1 := by kernel_rfl
noncomputable def body_b12 : Code := Try.f123.body.getD .skip
theorem lpok_b12 (fu : Nat) : LpOk E (pc_b12 fu) msk_b12 (lp_b12 fu) (loops 0 body_b12) := by
  have h : loops 0 body_b12 = [] := by kernel_rfl
  rw [h]; intro p hp; cases hp
def S_b12 (fu : Nat) (xs : List (D RT den)) : Option (Out RT den) := match xs with | [.agg [.int .i64 a0_1, .int .i64 a0_2, .int .i64 a0_3, .rs za0_4 .i64 na0_4 fa0_4], .int .i64 a1_0] => some ⟨Int, F_laws_szVip fu (⟨a0_1, a0_2, a0_3, (⟨za0_4, na0_4, fa0_4⟩ : (Sl Int))⟩ : S_impl_Vip) a1_0, enc_i64, fun _ => true⟩ | _ => none
theorem hpc_b12 (fu : Nat) : ∀ f xs o, pcf_b12 fu f xs = some o → ∀ y, o.x = some y → Good E Try.prog f xs (o.g y) := by
  intro f xs o h
  unfold pcf_b12 at h
  split at h
  · exact good_b11 fu xs o h
  · cases h
theorem goodv_b12 (fu : Nat) (a_0 : S_impl_Vip) (left_1 : Int) (y : Int) (hy : F_laws_szVip fu a_0 left_1 = some y) : Good E Try.prog 123 [(.agg [(.int .i64 a_0.Address), (.int .i64 a_0.Port), (.int .i64 a_0.Proto), (.rs a_0.Names.z .i64 a_0.Names.n a_0.Names.f)]), (.int .i64 left_1)] (enc_i64 y) :=
  fun_good E_ok (pc_good (pc := pc_b12 fu) (hpc_b12 fu) hpx0) (fn := Try.f123) (c := body_b12) (out := out_i64) (y := y) (by kernel_rfl) (by kernel_rfl) (by kernel_rfl) (lpok_b12 fu) (fun d hd => out_i64_enc d _ hd) ((ev_b12 fu a_0 left_1).trans hy)
theorem good_b12 (fu : Nat) : ∀ xs o, S_b12 fu xs = some o → ∀ y, o.x = some y → Good E Try.prog 123 xs (o.g y) := by
  intro xs o h y hy
  unfold S_b12 at h
  split at h
  · rename_i a0_1 a0_2 a0_3 za0_4 na0_4 fa0_4 a1_0
    cases h
    exact goodv_b12 fu (⟨a0_1, a0_2, a0_3, (⟨za0_4, na0_4, fa0_4⟩ : (Sl Int))⟩ : S_impl_Vip) a1_0 y hy
  · cases h

/-! laws.szVipS -/
def F_laws_szVipS_B0 {ρ : Type} (fu : Nat) (a0_0 : (Sl S_impl_Vip)) (k0 : Int → Option ρ) (k1 : Int → Option ρ) (left1_1 : Int) (i5_2 : Int) (go : Int → Int → Option ρ) : Option ρ :=
  (bif (decide (i5_2 < ((a0_0.n : Nat) : Int))) then ((bif (decide (0 ≤ i5_2) && decide ((Int.toNat i5_2) < a0_0.n)) then some () else none : Option Unit).bind fun _ =>
    ((F_laws_szVip fu (a0_0.f (Int.toNat i5_2)) left1_1).bind fun y226 => (bif (decide (y226 < 0)) then (k0 y226) else (go y226 (IntKind.wrap .i64 (i5_2 + 1)))))) else (k1 left1_1))
def F_laws_szVipS (fu : Nat) (a_0 : (Sl S_impl_Vip)) (left_1 : Int) : Option (Int) :=
  (bif (decide ((IntKind.wrap .i64 (left_1 - ((a_0.n : Nat) : Int))) < 0)) then (some (-1)) else (L (fun w0 go0 => F_laws_szVipS_B0 fu a_0 (fun z227 => (some (-1))) (fun z228 =>
    (some z228)) w0.1 w0.2 (fun q0 q1 => go0 (q0, q1))) fu (((IntKind.wrap .i64 (left_1 - ((a_0.n : Nat) : Int))), 0) : Int × Int)))
def pcf_b13 (fu : Nat) (f : Nat) (xs : List (D RT den)) : Option (Out RT den) := match f with | 123 => S_b12 fu xs | _ => none
def pc_b13 (fu : Nat) : Pc RT den := ⟨pcf_b13 fu, fun _ => false, fun _ => false, pcd0, pcx0⟩
def msk_b13 (b : Nat) : List Nat := match b with | 0 => [2, 3, 4, 6, 7, 8, 9, 10, 11, 12, 13, 14, 15, 16, 17, 18, 19, 20, 21, 22, 23, 24, 25, 26] | 100000 => [0, 2, 3, 5, 6, 7, 8, 9, 10, 11, 12, 13, 14, 15, 16, 17, 18, 19, 20, 21, 22, 23, 24, 25, 26] | _ => []
def ps_b13_0 : List (Pat RT) := [.flat (.rs .impl_Vip), .flat (.int .i64), .flat .q, .flat .q, .flat .q, .flat (.int .i64), .flat .q, .flat .q, .flat .q, .flat .q, .flat .q, .flat .q, .flat .q, .flat .q, .flat .q, .flat .q, .flat .q, .flat .q, .flat .q, .flat .q, .flat .q, .flat .q, .flat .q, .flat .q, .flat .q, .flat .q, .flat .q]
def os_b13_0 : List (OP RT) := []
def conv_b13_0 (r : Raw den ps_b13_0 os_b13_0) : ((Sl S_impl_Vip)) × (Int × Int) := (r.1.1, (r.1.2.1, r.1.2.2.2.2.2.1))
def back_b13_0 (c : (Sl S_impl_Vip)) (w : Int × Int) : St RT den := ⟨[(.rs c.z .impl_Vip c.n c.f), (.int .i64 w.1), .q, .q, .q, (.int .i64 w.2), .q, .q, .q, .q, .q, .q, .q, .q, .q, .q, .q, .q, .q, .q, .q, .q, .q, .q, .q, .q, .q], []⟩
def Bk_b13_0 {ρ : Type} (fu : Nat) (c : (Sl S_impl_Vip)) (k : Ex → St RT den → Option ρ) (w : Int × Int) (go : (Int × Int) → Option ρ) : Option ρ := F_laws_szVipS_B0 fu c (fun a0 => k .ret ⟨[.q, (.int .i64 a0), .q, .q, (.int .i64 (-1)), .q, .q, .q, .q, .q, .q, .q, .q, .q, .q, .q, .q, .q, .q, .q, .q, .q, .q, .q, .q, .q, .q], []⟩) (fun a0 => k (.exit 0) ⟨[.q, (.int .i64 a0), .q, .q, .q, .q, .q, .q, .q, .q, .q, .q, .q, .q, .q, .q, .q, .q, .q, .q, .q, .q, .q, .q, .q, .q, .q], []⟩) w.1 w.2 (fun q0 q1 => go (q0, q1))
def lp_b13 (fu : Nat) : Lp RT den (Int) := fun b s k => match b with | 0 => handle ps_b13_0 os_b13_0 conv_b13_0 (Bk_b13_0 fu) fu s k | _ => none
theorem ev_b13 (fu : Nat) (a_0 : (Sl S_impl_Vip)) (left_1 : Int) : evFun E (pc_b13 fu) msk_b13 (lp_b13 fu) out_i64 62 [(.rs a_0.z .impl_Vip a_0.n a_0.f), (.int .i64 left_1)] = F_laws_szVipS fu a_0 left_1 := by kernel_rfl
noncomputable def body_b13 : Code := Try.f62.body.getD .skip
noncomputable def lc_b13_0 : Code := ((loops 0 body_b13).getD 0 (0, .skip)).2
theorem round_b13_0 (fu : Nat) (it : St RT den → Option (Int)) (k : Ex → St RT den → Option (Int)) c w : evCode E (pc_b13 fu) msk_b13 (lp_b13 fu) 0 lc_b13_0 (back_b13_0 c w) (after (msk_b13 0) (msk_b13 100000) 0 it k) = Bk_b13_0 fu c k w (fun w => it (back_b13_0 c w)) := by kernel_rfl
theorem lpok_b13_0 (fu : Nat) : ∀ s k r, lp_b13 fu 0 s k = some r → ∃ fuel, iter (msk_b13 0) (msk_b13 100000) s.objs.length (evCode E (pc_b13 fu) msk_b13 (lp_b13 fu) 0 lc_b13_0) fuel s k = some r :=
  handle_ok (ps := ps_b13_0) (os := os_b13_0) (conv := conv_b13_0) (B := Bk_b13_0 fu) (fu := fu) back_b13_0 (fun raw => by kernel_rfl) 0 (fun c w => by kernel_rfl) (round_b13_0 fu)
theorem lpok_b13 (fu : Nat) : LpOk E (pc_b13 fu) msk_b13 (lp_b13 fu) (loops 0 body_b13) := loop_all 1 (by kernel_rfl) fun i hi => match i, hi with
  | 0, _ => by
    have h : (loops 0 body_b13).getD 0 (0, .skip) = (0, lc_b13_0) := by kernel_rfl
    rw [h]; exact lpok_b13_0 fu
  | i + 1, hi => absurd hi (by omega)
def S_b13 (fu : Nat) (xs : List (D RT den)) : Option (Out RT den) := match xs with | [.rs za0_0 .impl_Vip na0_0 fa0_0, .int .i64 a1_0] => some ⟨Int, F_laws_szVipS fu (⟨za0_0, na0_0, fa0_0⟩ : (Sl S_impl_Vip)) a1_0, enc_i64, fun _ => true⟩ | _ => none
theorem hpc_b13 (fu : Nat) : ∀ f xs o, pcf_b13 fu f xs = some o → ∀ y, o.x = some y → Good E Try.prog f xs (o.g y) := by
  intro f xs o h
  unfold pcf_b13 at h
  split at h
  · exact good_b12 fu xs o h
  · cases h
theorem goodv_b13 (fu : Nat) (a_0 : (Sl S_impl_Vip)) (left_1 : Int) (y : Int) (hy : F_laws_szVipS fu a_0 left_1 = some y) : Good E Try.prog 62 [(.rs a_0.z .impl_Vip a_0.n a_0.f), (.int .i64 left_1)] (enc_i64 y) :=
  fun_good E_ok (pc_good (pc := pc_b13 fu) (hpc_b13 fu) hpx0) (fn := Try.f62) (c := body_b13) (out := out_i64) (y := y) (by kernel_rfl) (by kernel_rfl) (by kernel_rfl) (lpok_b13 fu) (fun d hd => out_i64_enc d _ hd) ((ev_b13 fu a_0 left_1).trans hy)
theorem good_b13 (fu : Nat) : ∀ xs o, S_b13 fu xs = some o → ∀ y, o.x = some y → Good E Try.prog 62 xs (o.g y) := by
  intro xs o h y hy
  unfold S_b13 at h
  split at h
  · rename_i za0_0 na0_0 fa0_0 a1_0
    cases h
    exact goodv_b13 fu (⟨za0_0, na0_0, fa0_0⟩ : (Sl S_impl_Vip)) a1_0 y hy
  · cases h

/-! laws.szConfig -/
def F_laws_szConfig (fu : Nat) (a_0 : S_laws_Config) (left_1 : Int) : Option (Int) :=
  ((F_laws_szBackendS fu a_0.Backends left_1).bind fun y224 => (bif (decide (y224 < 0)) then (some (-1)) else ((F_laws_szVipS fu a_0.Vips y224).bind fun y225 => (bif (decide (y225 < 0)) then
    (some (-1)) else (some y225)))))
def pcf_b14 (fu : Nat) (f : Nat) (xs : List (D RT den)) : Option (Out RT den) := match f with | 61 => S_b10 fu xs | 62 => S_b13 fu xs | _ => none
def pc_b14 (fu : Nat) : Pc RT den := ⟨pcf_b14 fu, fun _ => false, fun _ => false, pcd0, pcx0⟩
def msk_b14 (b : Nat) : List Nat := []
def lp_b14 (fu : Nat) : Lp RT den (Int) := fun b s k => none
theorem ev_b14 (fu : Nat) (a_0 : S_laws_Config) (left_1 : Int) : evFun E (pc_b14 fu) msk_b14 (lp_b14 fu) out_i64 16 [(.agg [(.int .i64 a_0.Version), (.rs a_0.Backends.z .impl_Backend a_0.Backends.n a_0.Backends.f), (.rs a_0.Vips.z .impl_Vip a_0.Vips.n a_0.Vips.f)]), (.int .i64 left_1)] = F_laws_szConfig fu a_0 left_1 := by kernel_rfl
noncomputable def body_b14 : Code := Try.f16.body.getD .skip
theorem lpok_b14 (fu : Nat) : LpOk E (pc_b14 fu) msk_b14 (lp_b14 fu) (loops 0 body_b14) := by
  have h : loops 0 body_b14 = [] := by kernel_rfl
  rw [h]; intro p hp; cases hp
def S_b14 (fu : Nat) (xs : List (D RT den)) : Option (Out RT den) := match xs with | [.agg [.int .i64 a0_1, .rs za0_2 .impl_Backend na0_2 fa0_2, .rs za0_3 .impl_Vip na0_3 fa0_3], .int .i64 a1_0] => some ⟨Int, F_laws_szConfig fu (⟨a0_1, (⟨za0_2, na0_2, fa0_2⟩ : (Sl S_impl_Backend)), (⟨za0_3, na0_3, fa0_3⟩ : (Sl S_impl_Vip))⟩ : S_laws_Config) a1_0, enc_i64, fun _ => true⟩ | _ => none
theorem hpc_b14 (fu : Nat) : ∀ f xs o, pcf_b14 fu f xs = some o → ∀ y, o.x = some y → Good E Try.prog f xs (o.g y) := by
  intro f xs o h
  unfold pcf_b14 at h
  split at h
  · exact good_b10 fu xs o h
  · exact good_b13 fu xs o h
  · cases h
theorem goodv_b14 (fu : Nat) (a_0 : S_laws_Config) (left_1 : Int) (y : Int) (hy : F_laws_szConfig fu a_0 left_1 = some y) : Good E Try.prog 16 [(.agg [(.int .i64 a_0.Version), (.rs a_0.Backends.z .impl_Backend a_0.Backends.n a_0.Backends.f), (.rs a_0.Vips.z .impl_Vip a_0.Vips.n a_0.Vips.f)]), (.int .i64 left_1)] (enc_i64 y) :=
  fun_good E_ok (pc_good (pc := pc_b14 fu) (hpc_b14 fu) hpx0) (fn := Try.f16) (c := body_b14) (out := out_i64) (y := y) (by kernel_rfl) (by kernel_rfl) (by kernel_rfl) (lpok_b14 fu) (fun d hd => out_i64_enc d _ hd) ((ev_b14 fu a_0 left_1).trans hy)
theorem good_b14 (fu : Nat) : ∀ xs o, S_b14 fu xs = some o → ∀ y, o.x = some y → Good E Try.prog 16 xs (o.g y) := by
  intro xs o h y hy
  unfold S_b14 at h
  split at h
  · rename_i a0_1 za0_2 na0_2 fa0_2 za0_3 na0_3 fa0_3 a1_0
    cases h
    exact goodv_b14 fu (⟨a0_1, (⟨za0_2, na0_2, fa0_2⟩ : (Sl S_impl_Backend)), (⟨za0_3, na0_3, fa0_3⟩ : (Sl S_impl_Vip))⟩ : S_laws_Config) a1_0 y hy
  · cases h

/-! laws.szVerdictS -/
def F_laws_szVerdictS (fu : Nat) (a_0 : (Sl S_impl_Verdict)) (left_1 : Int) : Option (Int) :=
  (bif (decide ((IntKind.wrap .i64 (left_1 - ((a_0.n : Nat) : Int))) < 0)) then (some (-1)) else (some (IntKind.wrap .i64 (left_1 - ((a_0.n : Nat) : Int)))))
def pc_b15 (fu : Nat) : Pc RT den := ⟨pcf0, fun _ => false, fun _ => false, pcd0, pcx0⟩
def msk_b15 (b : Nat) : List Nat := []
def lp_b15 (fu : Nat) : Lp RT den (Int) := fun b s k => none
theorem ev_b15 (fu : Nat) (a_0 : (Sl S_impl_Verdict)) (left_1 : Int) : evFun E (pc_b15 fu) msk_b15 (lp_b15 fu) out_i64 17 [(.rs a_0.z .impl_Verdict a_0.n a_0.f), (.int .i64 left_1)] = F_laws_szVerdictS fu a_0 left_1 := by kernel_rfl
noncomputable def body_b15 : Code := Try.f17.body.getD .skip
theorem lpok_b15 (fu : Nat) : LpOk E (pc_b15 fu) msk_b15 (lp_b15 fu) (loops 0 body_b15) := by
  have h : loops 0 body_b15 = [] := by kernel_rfl
  rw [h]; intro p hp; cases hp
def S_b15 (fu : Nat) (xs : List (D RT den)) : Option (Out RT den) := match xs with | [.rs za0_0 .impl_Verdict na0_0 fa0_0, .int .i64 a1_0] => some ⟨Int, F_laws_szVerdictS fu (⟨za0_0, na0_0, fa0_0⟩ : (Sl S_impl_Verdict)) a1_0, enc_i64, fun _ => true⟩ | _ => none
theorem goodv_b15 (fu : Nat) (a_0 : (Sl S_impl_Verdict)) (left_1 : Int) (y : Int) (hy : F_laws_szVerdictS fu a_0 left_1 = some y) : Good E Try.prog 17 [(.rs a_0.z .impl_Verdict a_0.n a_0.f), (.int .i64 left_1)] (enc_i64 y) :=
  fun_good E_ok (pc_good (pc := pc_b15 fu) hpc0 hpx0) (fn := Try.f17) (c := body_b15) (out := out_i64) (y := y) (by kernel_rfl) (by kernel_rfl) (by kernel_rfl) (lpok_b15 fu) (fun d hd => out_i64_enc d _ hd) ((ev_b15 fu a_0 left_1).trans hy)
theorem good_b15 (fu : Nat) : ∀ xs o, S_b15 fu xs = some o → ∀ y, o.x = some y → Good E Try.prog 17 xs (o.g y) := by
  intro xs o h y hy
  unfold S_b15 at h
  split at h
  · rename_i za0_0 na0_0 fa0_0 a1_0
    cases h
    exact goodv_b15 fu (⟨za0_0, na0_0, fa0_0⟩ : (Sl S_impl_Verdict)) a1_0 y hy
  · cases h

/-! laws.eqCmd -/
def F_laws_eqCmd (fu : Nat) (a_0 : S_impl_Cmd) (b_1 : S_impl_Cmd) : Option (Bool) :=
  (bif (a_0.Kind != b_1.Kind) then (some false) else (bif (a_0.Expect != b_1.Expect) then (some false) else (bif (a_0.Name != b_1.Name) then (some false) else (bif (a_0.Addr != b_1.Addr) then
    (some false) else (bif (a_0.Number != b_1.Number) then (some false) else (bif (a_0.Proto != b_1.Proto) then (some false) else (some true)))))))
def pc_b16 (fu : Nat) : Pc RT den := ⟨pcf0, fun _ => false, fun _ => false, pcd0, pcx0⟩
def msk_b16 (b : Nat) : List Nat := []
def lp_b16 (fu : Nat) : Lp RT den (Bool) := fun b s k => none
theorem ev_b16 (fu : Nat) (a_0 : S_impl_Cmd) (b_1 : S_impl_Cmd) : evFun E (pc_b16 fu) msk_b16 (lp_b16 fu) out_bo 137 [(.agg [(.int .i64 a_0.Kind), (.int .i64 a_0.Expect), (.int .i64 a_0.Name), (.int .i64 a_0.Addr), (.int .i64 a_0.Number), (.int .i64 a_0.Proto)]), (.agg [(.int .i64 b_1.Kind), (.int .i64 b_1.Expect), (.int .i64 b_1.Name), (.int .i64 b_1.Addr), (.int .i64 b_1.Number), (.int .i64 b_1.Proto)])] = F_laws_eqCmd fu a_0 b_1 := by kernel_rfl
noncomputable def body_b16 : Code := Try.f137.body.getD .skip
theorem lpok_b16 (fu : Nat) : LpOk E (pc_b16 fu) msk_b16 (lp_b16 fu) (loops 0 body_b16) := by
  have h : loops 0 body_b16 = [] := by kernel_rfl
  rw [h]; intro p hp; cases hp
def S_b16 (fu : Nat) (xs : List (D RT den)) : Option (Out RT den) := match xs with | [.agg [.int .i64 a0_1, .int .i64 a0_2, .int .i64 a0_3, .int .i64 a0_4, .int .i64 a0_5, .int .i64 a0_6], .agg [.int .i64 a1_1, .int .i64 a1_2, .int .i64 a1_3, .int .i64 a1_4, .int .i64 a1_5, .int .i64 a1_6]] => some ⟨Bool, F_laws_eqCmd fu (⟨a0_1, a0_2, a0_3, a0_4, a0_5, a0_6⟩ : S_impl_Cmd) (⟨a1_1, a1_2, a1_3, a1_4, a1_5, a1_6⟩ : S_impl_Cmd), enc_bo, fun _ => true⟩ | _ => none
theorem goodv_b16 (fu : Nat) (a_0 : S_impl_Cmd) (b_1 : S_impl_Cmd) (y : Bool) (hy : F_laws_eqCmd fu a_0 b_1 = some y) : Good E Try.prog 137 [(.agg [(.int .i64 a_0.Kind), (.int .i64 a_0.Expect), (.int .i64 a_0.Name), (.int .i64 a_0.Addr), (.int .i64 a_0.Number), (.int .i64 a_0.Proto)]), (.agg [(.int .i64 b_1.Kind), (.int .i64 b_1.Expect), (.int .i64 b_1.Name), (.int .i64 b_1.Addr), (.int .i64 b_1.Number), (.int .i64 b_1.Proto)])] (enc_bo y) :=
  fun_good E_ok (pc_good (pc := pc_b16 fu) hpc0 hpx0) (fn := Try.f137) (c := body_b16) (out := out_bo) (y := y) (by kernel_rfl) (by kernel_rfl) (by kernel_rfl) (lpok_b16 fu) (fun d hd => out_bo_enc d _ hd) ((ev_b16 fu a_0 b_1).trans hy)
theorem good_b16 (fu : Nat) : ∀ xs o, S_b16 fu xs = some o → ∀ y, o.x = some y → Good E Try.prog 137 xs (o.g y) := by
  intro xs o h y hy
  unfold S_b16 at h
  split at h
  · rename_i a0_1 a0_2 a0_3 a0_4 a0_5 a0_6 a1_1 a1_2 a1_3 a1_4 a1_5 a1_6
    cases h
    exact goodv_b16 fu (⟨a0_1, a0_2, a0_3, a0_4, a0_5, a0_6⟩ : S_impl_Cmd) (⟨a1_1, a1_2, a1_3, a1_4, a1_5, a1_6⟩ : S_impl_Cmd) y hy
  · cases h

/-! laws.eqCmdS -/
def F_laws_eqCmdS_B0 {ρ : Type} (fu : Nat) (a0_0 : (Sl S_impl_Cmd)) (b1_1 : (Sl S_impl_Cmd)) (k0 : Option ρ) (k1 : Option ρ) (i5_2 : Int) (go : Int → Option ρ) : Option ρ :=
  (bif (decide (i5_2 < ((a0_0.n : Nat) : Int))) then ((bif (decide (0 ≤ i5_2) && decide ((Int.toNat i5_2) < a0_0.n)) then some () else none : Option Unit).bind fun _ => ((bif (decide (0 ≤ i5_2) &&
    decide ((Int.toNat i5_2) < b1_1.n)) then some () else none : Option Unit).bind fun _ => ((F_laws_eqCmd fu (a0_0.f (Int.toNat i5_2)) (b1_1.f (Int.toNat i5_2))).bind fun y231 =>
    (bif (!y231) then k0 else (go (IntKind.wrap .i64 (i5_2 + 1))))))) else k1)
def F_laws_eqCmdS (fu : Nat) (a_0 : (Sl S_impl_Cmd)) (b_1 : (Sl S_impl_Cmd)) : Option (Bool) :=
  (bif (((a_0.n : Nat) : Int) != ((b_1.n : Nat) : Int)) then (some false) else (L (fun w0 go0 => F_laws_eqCmdS_B0 fu a_0 b_1 (some false) (some true) w0 go0) fu (0 : Int)))
def pcf_b17 (fu : Nat) (f : Nat) (xs : List (D RT den)) : Option (Out RT den) := match f with | 137 => S_b16 fu xs | _ => none
def pc_b17 (fu : Nat) : Pc RT den := ⟨pcf_b17 fu, fun _ => false, fun _ => false, pcd0, pcx0⟩
def msk_b17 (b : Nat) : List Nat := match b with | 0 => [2, 3, 4, 6, 7, 8, 9, 10, 11, 12, 13, 14, 15, 16, 17, 18, 19, 20, 21, 22, 23, 24, 25, 26] | 100000 => [0, 1, 2, 3, 5, 6, 7, 8, 9, 10, 11, 12, 13, 14, 15, 16, 17, 18, 19, 20, 21, 22, 23, 24, 25, 26] | _ => []
def ps_b17_0 : List (Pat RT) := [.flat (.rs .impl_Cmd), .flat (.rs .impl_Cmd), .flat .q, .flat .q, .flat .q, .flat (.int .i64), .flat .q, .flat .q, .flat .q, .flat .q, .flat .q, .flat .q, .flat .q, .flat .q, .flat .q, .flat .q, .flat .q, .flat .q, .flat .q, .flat .q, .flat .q, .flat .q, .flat .q, .flat .q, .flat .q, .flat .q, .flat .q]
def os_b17_0 : List (OP RT) := []
def conv_b17_0 (r : Raw den ps_b17_0 os_b17_0) : ((Sl S_impl_Cmd) × (Sl S_impl_Cmd)) × (Int) := ((r.1.1, r.1.2.1), r.1.2.2.2.2.2.1)
def back_b17_0 (c : (Sl S_impl_Cmd) × (Sl S_impl_Cmd)) (w : Int) : St RT den := ⟨[(.rs c.1.z .impl_Cmd c.1.n c.1.f), (.rs c.2.z .impl_Cmd c.2.n c.2.f), .q, .q, .q, (.int .i64 w), .q, .q, .q, .q, .q, .q, .q, .q, .q, .q, .q, .q, .q, .q, .q, .q, .q, .q, .q, .q, .q], []⟩
def Bk_b17_0 {ρ : Type} (fu : Nat) (c : (Sl S_impl_Cmd) × (Sl S_impl_Cmd)) (k : Ex → St RT den → Option ρ) (w : Int) (go : (Int) → Option ρ) : Option ρ := F_laws_eqCmdS_B0 fu c.1 c.2 (k .ret ⟨[.q, .q, .q, .q, (.bool false), .q, .q, .q, .q, .q, .q, .q, .q, .q, .q, .q, .q, .q, .q, .q, .q, .q, .q, .q, .q, .q, .q], []⟩) (k (.exit 0) ⟨[.q, .q, .q, .q, .q, .q, .q, .q, .q, .q, .q, .q, .q, .q, .q, .q, .q, .q, .q, .q, .q, .q, .q, .q, .q, .q, .q], []⟩) w go
def lp_b17 (fu : Nat) : Lp RT den (Bool) := fun b s k => match b with | 0 => handle ps_b17_0 os_b17_0 conv_b17_0 (Bk_b17_0 fu) fu s k | _ => none
theorem ev_b17 (fu : Nat) (a_0 : (Sl S_impl_Cmd)) (b_1 : (Sl S_impl_Cmd)) : evFun E (pc_b17 fu) msk_b17 (lp_b17 fu) out_bo 74 [(.rs a_0.z .impl_Cmd a_0.n a_0.f), (.rs b_1.z .impl_Cmd b_1.n b_1.f)] = F_laws_eqCmdS fu a_0 b_1 := by kernel_rfl
noncomputable def body_b17 : Code := Try.f74.body.getD .skip
noncomputable def lc_b17_0 : Code := ((loops 0 body_b17).getD 0 (0, .skip)).2
theorem round_b17_0 (fu : Nat) (it : St RT den → Option (Bool)) (k : Ex → St RT den → Option (Bool)) c w : evCode E (pc_b17 fu) msk_b17 (lp_b17 fu) 0 lc_b17_0 (back_b17_0 c w) (after (msk_b17 0) (msk_b17 100000) 0 it k) = Bk_b17_0 fu c k w (fun w => it (back_b17_0 c w)) := by kernel_rfl
theorem lpok_b17_0 (fu : Nat) : ∀ s k r, lp_b17 fu 0 s k = some r → ∃ fuel, iter (msk_b17 0) (msk_b17 100000) s.objs.length (evCode E (pc_b17 fu) msk_b17 (lp_b17 fu) 0 lc_b17_0) fuel s k = some r :=
  handle_ok (ps := ps_b17_0) (os := os_b17_0) (conv := conv_b17_0) (B := Bk_b17_0 fu) (fu := fu) back_b17_0 (fun raw => by kernel_rfl) 0 (fun c w => by kernel_rfl) (round_b17_0 fu)
theorem lpok_b17 (fu : Nat) : LpOk E (pc_b17 fu) msk_b17 (lp_b17 fu) (loops 0 body_b17) := loop_all 1 (by kernel_rfl) fun i hi => match i, hi with
  | 0, _ => by
    have h : (loops 0 body_b17).getD 0 (0, .skip) = (0, lc_b17_0) := by kernel_rfl
    rw [h]; exact lpok_b17_0 fu
  | i + 1, hi => absurd hi (by omega)
def S_b17 (fu : Nat) (xs : List (D RT den)) : Option (Out RT den) := match xs with | [.rs za0_0 .impl_Cmd na0_0 fa0_0, .rs za1_0 .impl_Cmd na1_0 fa1_0] => some ⟨Bool, F_laws_eqCmdS fu (⟨za0_0, na0_0, fa0_0⟩ : (Sl S_impl_Cmd)) (⟨za1_0, na1_0, fa1_0⟩ : (Sl S_impl_Cmd)), enc_bo, fun _ => true⟩ | _ => none
theorem hpc_b17 (fu : Nat) : ∀ f xs o, pcf_b17 fu f xs = some o → ∀ y, o.x = some y → Good E Try.prog f xs (o.g y) := by
  intro f xs o h
  unfold pcf_b17 at h
  split at h
  · exact good_b16 fu xs o h
  · cases h
theorem goodv_b17 (fu : Nat) (a_0 : (Sl S_impl_Cmd)) (b_1 : (Sl S_impl_Cmd)) (y : Bool) (hy : F_laws_eqCmdS fu a_0 b_1 = some y) : Good E Try.prog 74 [(.rs a_0.z .impl_Cmd a_0.n a_0.f), (.rs b_1.z .impl_Cmd b_1.n b_1.f)] (enc_bo y) :=
  fun_good E_ok (pc_good (pc := pc_b17 fu) (hpc_b17 fu) hpx0) (fn := Try.f74) (c := body_b17) (out := out_bo) (y := y) (by kernel_rfl) (by kernel_rfl) (by kernel_rfl) (lpok_b17 fu) (fun d hd => out_bo_enc d _ hd) ((ev_b17 fu a_0 b_1).trans hy)
theorem good_b17 (fu : Nat) : ∀ xs o, S_b17 fu xs = some o → ∀ y, o.x = some y → Good E Try.prog 74 xs (o.g y) := by
  intro xs o h y hy
  unfold S_b17 at h
  split at h
  · rename_i za0_0 na0_0 fa0_0 za1_0 na1_0 fa1_0
    cases h
    exact goodv_b17 fu (⟨za0_0, na0_0, fa0_0⟩ : (Sl S_impl_Cmd)) (⟨za1_0, na1_0, fa1_0⟩ : (Sl S_impl_Cmd)) y hy
  · cases h

/-! laws.eqCmdsResult -/
def F_laws_eqCmdsResult (fu : Nat) (a_0 : S_impl_CmdsResult) (b_1 : S_impl_CmdsResult) : Option (Bool) :=
  (bif (a_0.Code != b_1.Code) then (some false) else ((F_laws_eqCmdS fu a_0.Cmds b_1.Cmds).bind fun y230 => (bif (!y230) then (some false) else (some true))))
def pcf_b18 (fu : Nat) (f : Nat) (xs : List (D RT den)) : Option (Out RT den) := match f with | 74 => S_b17 fu xs | _ => none
def pc_b18 (fu : Nat) : Pc RT den := ⟨pcf_b18 fu, fun _ => false, fun _ => false, pcd0, pcx0⟩
def msk_b18 (b : Nat) : List Nat := []
def lp_b18 (fu : Nat) : Lp RT den (Bool) := fun b s k => none
theorem ev_b18 (fu : Nat) (a_0 : S_impl_CmdsResult) (b_1 : S_impl_CmdsResult) : evFun E (pc_b18 fu) msk_b18 (lp_b18 fu) out_bo 22 [(.agg [(.int .i64 a_0.Code), (.rs a_0.Cmds.z .impl_Cmd a_0.Cmds.n a_0.Cmds.f)]), (.agg [(.int .i64 b_1.Code), (.rs b_1.Cmds.z .impl_Cmd b_1.Cmds.n b_1.Cmds.f)])] = F_laws_eqCmdsResult fu a_0 b_1 := by kernel_rfl
noncomputable def body_b18 : Code := Try.f22.body.getD .skip
theorem lpok_b18 (fu : Nat) : LpOk E (pc_b18 fu) msk_b18 (lp_b18 fu) (loops 0 body_b18) := by
  have h : loops 0 body_b18 = [] := by kernel_rfl
  rw [h]; intro p hp; cases hp
def S_b18 (fu : Nat) (xs : List (D RT den)) : Option (Out RT den) := match xs with | [.agg [.int .i64 a0_1, .rs za0_2 .impl_Cmd na0_2 fa0_2], .agg [.int .i64 a1_1, .rs za1_2 .impl_Cmd na1_2 fa1_2]] => some ⟨Bool, F_laws_eqCmdsResult fu (⟨a0_1, (⟨za0_2, na0_2, fa0_2⟩ : (Sl S_impl_Cmd))⟩ : S_impl_CmdsResult) (⟨a1_1, (⟨za1_2, na1_2, fa1_2⟩ : (Sl S_impl_Cmd))⟩ : S_impl_CmdsResult), enc_bo, fun _ => true⟩ | _ => none
theorem hpc_b18 (fu : Nat) : ∀ f xs o, pcf_b18 fu f xs = some o → ∀ y, o.x = some y → Good E Try.prog f xs (o.g y) := by
  intro f xs o h
  unfold pcf_b18 at h
  split at h
  · exact good_b17 fu xs o h
  · cases h
theorem goodv_b18 (fu : Nat) (a_0 : S_impl_CmdsResult) (b_1 : S_impl_CmdsResult) (y : Bool) (hy : F_laws_eqCmdsResult fu a_0 b_1 = some y) : Good E Try.prog 22 [(.agg [(.int .i64 a_0.Code), (.rs a_0.Cmds.z .impl_Cmd a_0.Cmds.n a_0.Cmds.f)]), (.agg [(.int .i64 b_1.Code), (.rs b_1.Cmds.z .impl_Cmd b_1.Cmds.n b_1.Cmds.f)])] (enc_bo y) :=
  fun_good E_ok (pc_good (pc := pc_b18 fu) (hpc_b18 fu) hpx0) (fn := Try.f22) (c := body_b18) (out := out_bo) (y := y) (by kernel_rfl) (by kernel_rfl) (by kernel_rfl) (lpok_b18 fu) (fun d hd => out_bo_enc d _ hd) ((ev_b18 fu a_0 b_1).trans hy)
theorem good_b18 (fu : Nat) : ∀ xs o, S_b18 fu xs = some o → ∀ y, o.x = some y → Good E Try.prog 22 xs (o.g y) := by
  intro xs o h y hy
  unfold S_b18 at h
  split at h
  · rename_i a0_1 za0_2 na0_2 fa0_2 a1_1 za1_2 na1_2 fa1_2
    cases h
    exact goodv_b18 fu (⟨a0_1, (⟨za0_2, na0_2, fa0_2⟩ : (Sl S_impl_Cmd))⟩ : S_impl_CmdsResult) (⟨a1_1, (⟨za1_2, na1_2, fa1_2⟩ : (Sl S_impl_Cmd))⟩ : S_impl_CmdsResult) y hy
  · cases h

/-! laws.eqBackend -/
def F_laws_eqBackend (fu : Nat) (a_0 : S_impl_Backend) (b_1 : S_impl_Backend) : Option (Bool) :=
  (bif (a_0.Name != b_1.Name) then (some false) else (bif (a_0.Address != b_1.Address) then (some false) else (bif (a_0.Weight != b_1.Weight) then (some false) else (bif (a_0.Stage != b_1.Stage) then
    (some false) else (bif (!(a_0.Up == b_1.Up)) then (some false) else (some true))))))
def pc_b19 (fu : Nat) : Pc RT den := ⟨pcf0, fun _ => false, fun _ => false, pcd0, pcx0⟩
def msk_b19 (b : Nat) : List Nat := []
def lp_b19 (fu : Nat) : Lp RT den (Bool) := fun b s k => none
theorem ev_b19 (fu : Nat) (a_0 : S_impl_Backend) (b_1 : S_impl_Backend) : evFun E (pc_b19 fu) msk_b19 (lp_b19 fu) out_bo 138 [(.agg [(.int .i64 a_0.Name), (.int .i64 a_0.Address), (.int .i64 a_0.Weight), (.int .i64 a_0.Stage), (.bool a_0.Up)]), (.agg [(.int .i64 b_1.Name), (.int .i64 b_1.Address), (.int .i64 b_1.Weight), (.int .i64 b_1.Stage), (.bool b_1.Up)])] = F_laws_eqBackend fu a_0 b_1 := by kernel_rfl
noncomputable def body_b19 : Code := Try.f138.body.getD .skip
theorem lpok_b19 (fu : Nat) : LpOk E (pc_b19 fu) msk_b19 (lp_b19 fu) (loops 0 body_b19) := by
  have h : loops 0 body_b19 = [] := by kernel_rfl
  rw [h]; intro p hp; cases hp
def S_b19 (fu : Nat) (xs : List (D RT den)) : Option (Out RT den) := match xs with | [.agg [.int .i64 a0_1, .int .i64 a0_2, .int .i64 a0_3, .int .i64 a0_4, .bool a0_5], .agg [.int .i64 a1_1, .int .i64 a1_2, .int .i64 a1_3, .int .i64 a1_4, .bool a1_5]] => some ⟨Bool, F_laws_eqBackend fu (⟨a0_1, a0_2, a0_3, a0_4, a0_5⟩ : S_impl_Backend) (⟨a1_1, a1_2, a1_3, a1_4, a1_5⟩ : S_impl_Backend), enc_bo, fun _ => true⟩ | _ => none
theorem goodv_b19 (fu : Nat) (a_0 : S_impl_Backend) (b_1 : S_impl_Backend) (y : Bool) (hy : F_laws_eqBackend fu a_0 b_1 = some y) : Good E Try.prog 138 [(.agg [(.int .i64 a_0.Name), (.int .i64 a_0.Address), (.int .i64 a_0.Weight), (.int .i64 a_0.Stage), (.bool a_0.Up)]), (.agg [(.int .i64 b_1.Name), (.int .i64 b_1.Address), (.int .i64 b_1.Weight), (.int .i64 b_1.Stage), (.bool b_1.Up)])] (enc_bo y) :=
  fun_good E_ok (pc_good (pc := pc_b19 fu) hpc0 hpx0) (fn := Try.f138) (c := body_b19) (out := out_bo) (y := y) (by kernel_rfl) (by kernel_rfl) (by kernel_rfl) (lpok_b19 fu) (fun d hd => out_bo_enc d _ hd) ((ev_b19 fu a_0 b_1).trans hy)
theorem good_b19 (fu : Nat) : ∀ xs o, S_b19 fu xs = some o → ∀ y, o.x = some y → Good E Try.prog 138 xs (o.g y) := by
  intro xs o h y hy
  unfold S_b19 at h
  split at h
  · rename_i a0_1 a0_2 a0_3 a0_4 a0_5 a1_1 a1_2 a1_3 a1_4 a1_5
    cases h
    exact goodv_b19 fu (⟨a0_1, a0_2, a0_3, a0_4, a0_5⟩ : S_impl_Backend) (⟨a1_1, a1_2, a1_3, a1_4, a1_5⟩ : S_impl_Backend) y hy
  · cases h

/-! laws.eqBackendS -/
def F_laws_eqBackendS_B0 {ρ : Type} (fu : Nat) (a0_0 : (Sl S_impl_Backend)) (b1_1 : (Sl S_impl_Backend)) (k0 : Option ρ) (k1 : Option ρ) (i5_2 : Int) (go : Int → Option ρ) : Option ρ :=
  (bif (decide (i5_2 < ((a0_0.n : Nat) : Int))) then ((bif (decide (0 ≤ i5_2) && decide ((Int.toNat i5_2) < a0_0.n)) then some () else none : Option Unit).bind fun _ => ((bif (decide (0 ≤ i5_2) &&
    decide ((Int.toNat i5_2) < b1_1.n)) then some () else none : Option Unit).bind fun _ => ((F_laws_eqBackend fu (a0_0.f (Int.toNat i5_2)) (b1_1.f (Int.toNat i5_2))).bind fun y234 =>
    (bif (!y234) then k0 else (go (IntKind.wrap .i64 (i5_2 + 1))))))) else k1)
def F_laws_eqBackendS (fu : Nat) (a_0 : (Sl S_impl_Backend)) (b_1 : (Sl S_impl_Backend)) : Option (Bool) :=
  (bif (((a_0.n : Nat) : Int) != ((b_1.n : Nat) : Int)) then (some false) else (L (fun w0 go0 => F_laws_eqBackendS_B0 fu a_0 b_1 (some false) (some true) w0 go0) fu (0 : Int)))
def pcf_b20 (fu : Nat) (f : Nat) (xs : List (D RT den)) : Option (Out RT den) := match f with | 138 => S_b19 fu xs | _ => none
def pc_b20 (fu : Nat) : Pc RT den := ⟨pcf_b20 fu, fun _ => false, fun _ => false, pcd0, pcx0⟩
def msk_b20 (b : Nat) : List Nat := match b with | 0 => [2, 3, 4, 6, 7, 8, 9, 10, 11, 12, 13, 14, 15, 16, 17, 18, 19, 20, 21, 22, 23, 24, 25, 26] | 100000 => [0, 1, 2, 3, 5, 6, 7, 8, 9, 10, 11, 12, 13, 14, 15, 16, 17, 18, 19, 20, 21, 22, 23, 24, 25, 26] | _ => []
def ps_b20_0 : List (Pat RT) := [.flat (.rs .impl_Backend), .flat (.rs .impl_Backend), .flat .q, .flat .q, .flat .q, .flat (.int .i64), .flat .q, .flat .q, .flat .q, .flat .q, .flat .q, .flat .q, .flat .q, .flat .q, .flat .q, .flat .q, .flat .q, .flat .q, .flat .q, .flat .q, .flat .q, .flat .q, .flat .q, .flat .q, .flat .q, .flat .q, .flat .q]
def os_b20_0 : List (OP RT) := []
def conv_b20_0 (r : Raw den ps_b20_0 os_b20_0) : ((Sl S_impl_Backend) × (Sl S_impl_Backend)) × (Int) := ((r.1.1, r.1.2.1), r.1.2.2.2.2.2.1)
def back_b20_0 (c : (Sl S_impl_Backend) × (Sl S_impl_Backend)) (w : Int) : St RT den := ⟨[(.rs c.1.z .impl_Backend c.1.n c.1.f), (.rs c.2.z .impl_Backend c.2.n c.2.f), .q, .q, .q, (.int .i64 w), .q, .q, .q, .q, .q, .q, .q, .q, .q, .q, .q, .q, .q, .q, .q, .q, .q, .q, .q, .q, .q], []⟩
def Bk_b20_0 {ρ : Type} (fu : Nat) (c : (Sl S_impl_Backend) × (Sl S_impl_Backend)) (k : Ex → St RT den → Option ρ) (w : Int) (go : (Int) → Option ρ) : Option ρ := F_laws_eqBackendS_B0 fu c.1 c.2 (k .ret ⟨[.q, .q, .q, .q, (.bool false), .q, .q, .q, .q, .q, .q, .q, .q, .q, .q, .q, .q, .q, .q, .q, .q, .q, .q, .q, .q, .q, .q], []⟩) (k (.exit 0) ⟨[.q, .q, .q, .q, .q, .q, .q, .q, .q, .q, .q, .q, .q, .q, .q, .q, .q, .q, .q, .q, .q, .q, .q, .q, .q, .q, .q], []⟩) w go
def lp_b20 (fu : Nat) : Lp RT den (Bool) := fun b s k => match b with | 0 => handle ps_b20_0 os_b20_0 conv_b20_0 (Bk_b20_0 fu) fu s k | _ => none
theorem ev_b20 (fu : Nat) (a_0 : (Sl S_impl_Backend)) (b_1 : (Sl S_impl_Backend)) : evFun E (pc_b20 fu) msk_b20 (lp_b20 fu) out_bo 75 [(.rs a_0.z .impl_Backend a_0.n a_0.f), (.rs b_1.z .impl_Backend b_1.n b_1.f)] = F_laws_eqBackendS fu a_0 b_1 := by kernel_rfl
noncomputable def body_b20 : Code := Try.f75.body.getD .skip
noncomputable def lc_b20_0 : Code := ((loops 0 body_b20).getD 0 (0, .skip)).2
theorem round_b20_0 (fu : Nat) (it : St RT den → Option (Bool)) (k : Ex → St RT den → Option (Bool)) c w : evCode E (pc_b20 fu) msk_b20 (lp_b20 fu) 0 lc_b20_0 (back_b20_0 c w) (after (msk_b20 0) (msk_b20 100000) 0 it k) = Bk_b20_0 fu c k w (fun w => it (back_b20_0 c w)) := by kernel_rfl
theorem lpok_b20_0 (fu : Nat) : ∀ s k r, lp_b20 fu 0 s k = some r → ∃ fuel, iter (msk_b20 0) (msk_b20 100000) s.objs.length (evCode E (pc_b20 fu) msk_b20 (lp_b20 fu) 0 lc_b20_0) fuel s k = some r :=
  handle_ok (ps := ps_b20_0) (os := os_b20_0) (conv := conv_b20_0) (B := Bk_b20_0 fu) (fu := fu) back_b20_0 (fun raw => by kernel_rfl) 0 (fun c w => by kernel_rfl) (round_b20_0 fu)
theorem lpok_b20 (fu : Nat) : LpOk E (pc_b20 fu) msk_b20 (lp_b20 fu) (loops 0 body_b20) := loop_all 1 (by kernel_rfl) fun i hi => match i, hi with
  | 0, _ => by
    have h : (loops 0 body_b20).getD 0 (0, .skip) = (0, lc_b20_0) := by kernel_rfl
    rw [h]; exact lpok_b20_0 fu
  | i + 1, hi => absurd hi (by omega)
def S_b20 (fu : Nat) (xs : List (D RT den)) : Option (Out RT den) := match xs with | [.rs za0_0 .impl_Backend na0_0 fa0_0, .rs za1_0 .impl_Backend na1_0 fa1_0] => some ⟨Bool, F_laws_eqBackendS fu (⟨za0_0, na0_0, fa0_0⟩ : (Sl S_impl_Backend)) (⟨za1_0, na1_0, fa1_0⟩ : (Sl S_impl_Backend)), enc_bo, fun _ => true⟩ | _ => none
theorem hpc_b20 (fu : Nat) : ∀ f xs o, pcf_b20 fu f xs = some o → ∀ y, o.x = some y → Good E Try.prog f xs (o.g y) := by
  intro f xs o h
  unfold pcf_b20 at h
  split at h
  · exact good_b19 fu xs o h
  · cases h
theorem goodv_b20 (fu : Nat) (a_0 : (Sl S_impl_Backend)) (b_1 : (Sl S_impl_Backend)) (y : Bool) (hy : F_laws_eqBackendS fu a_0 b_1 = some y) : Good E Try.prog 75 [(.rs a_0.z .impl_Backend a_0.n a_0.f), (.rs b_1.z .impl_Backend b_1.n b_1.f)] (enc_bo y) :=
  fun_good E_ok (pc_good (pc := pc_b20 fu) (hpc_b20 fu) hpx0) (fn := Try.f75) (c := body_b20) (out := out_bo) (y := y) (by kernel_rfl) (by kernel_rfl) (by kernel_rfl) (lpok_b20 fu) (fun d hd => out_bo_enc d _ hd) ((ev_b20 fu a_0 b_1).trans hy)
theorem good_b20 (fu : Nat) : ∀ xs o, S_b20 fu xs = some o → ∀ y, o.x = some y → Good E Try.prog 75 xs (o.g y) := by
  intro xs o h y hy
  unfold S_b20 at h
  split at h
  · rename_i za0_0 na0_0 fa0_0 za1_0 na1_0 fa1_0
    cases h
    exact goodv_b20 fu (⟨za0_0, na0_0, fa0_0⟩ : (Sl S_impl_Backend)) (⟨za1_0, na1_0, fa1_0⟩ : (Sl S_impl_Backend)) y hy
  · cases h

/-! laws.eqInt64S -/
def F_laws_eqInt64S_B0 {ρ : Type} (fu : Nat) (a0_0 : (Sl Int)) (b1_1 : (Sl Int)) (k0 : Option ρ) (k1 : Option ρ) (i5_2 : Int) (go : Int → Option ρ) : Option ρ :=
  (bif (decide (i5_2 < ((a0_0.n : Nat) : Int))) then ((bif (decide (0 ≤ i5_2) && decide ((Int.toNat i5_2) < a0_0.n)) then some () else none : Option Unit).bind fun _ => ((bif (decide (0 ≤ i5_2) &&
    decide ((Int.toNat i5_2) < b1_1.n)) then some () else none : Option Unit).bind fun _ => (bif ((a0_0.f (Int.toNat i5_2)) != (b1_1.f (Int.toNat i5_2))) then k0 else (go (IntKind.wrap .i64 (i5_2 + 1)))))) else
    k1)
def F_laws_eqInt64S (fu : Nat) (a_0 : (Sl Int)) (b_1 : (Sl Int)) : Option (Bool) :=
  (bif (((a_0.n : Nat) : Int) != ((b_1.n : Nat) : Int)) then (some false) else (L (fun w0 go0 => F_laws_eqInt64S_B0 fu a_0 b_1 (some false) (some true) w0 go0) fu (0 : Int)))
def pc_b21 (fu : Nat) : Pc RT den := ⟨pcf0, fun _ => false, fun _ => false, pcd0, pcx0⟩
def msk_b21 (b : Nat) : List Nat := match b with | 0 => [2, 3, 4, 6, 7, 8, 9, 10, 11, 12, 13, 14, 15, 16, 17, 18, 19, 20, 21, 22, 23, 24, 25] | 100000 => [0, 1, 2, 3, 5, 6, 7, 8, 9, 10, 11, 12, 13, 14, 15, 16, 17, 18, 19, 20, 21, 22, 23, 24, 25] | _ => []
def ps_b21_0 : List (Pat RT) := [.flat (.rs .i64), .flat (.rs .i64), .flat .q, .flat .q, .flat .q, .flat (.int .i64), .flat .q, .flat .q, .flat .q, .flat .q, .flat .q, .flat .q, .flat .q, .flat .q, .flat .q, .flat .q, .flat .q, .flat .q, .flat .q, .flat .q, .flat .q, .flat .q, .flat .q, .flat .q, .flat .q, .flat .q]
def os_b21_0 : List (OP RT) := []
def conv_b21_0 (r : Raw den ps_b21_0 os_b21_0) : ((Sl Int) × (Sl Int)) × (Int) := ((r.1.1, r.1.2.1), r.1.2.2.2.2.2.1)
def back_b21_0 (c : (Sl Int) × (Sl Int)) (w : Int) : St RT den := ⟨[(.rs c.1.z .i64 c.1.n c.1.f), (.rs c.2.z .i64 c.2.n c.2.f), .q, .q, .q, (.int .i64 w), .q, .q, .q, .q, .q, .q, .q, .q, .q, .q, .q, .q, .q, .q, .q, .q, .q, .q, .q, .q], []⟩
def Bk_b21_0 {ρ : Type} (fu : Nat) (c : (Sl Int) × (Sl Int)) (k : Ex → St RT den → Option ρ) (w : Int) (go : (Int) → Option ρ) : Option ρ := F_laws_eqInt64S_B0 fu c.1 c.2 (k .ret ⟨[.q, .q, .q, .q, (.bool false), .q, .q, .q, .q, .q, .q, .q, .q, .q, .q, .q, .q, .q, .q, .q, .q, .q, .q, .q, .q, .q], []⟩) (k (.exit 0) ⟨[.q, .q, .q, .q, .q, .q, .q, .q, .q, .q, .q, .q, .q, .q, .q, .q, .q, .q, .q, .q, .q, .q, .q, .q, .q, .q], []⟩) w go
def lp_b21 (fu : Nat) : Lp RT den (Bool) := fun b s k => match b with | 0 => handle ps_b21_0 os_b21_0 conv_b21_0 (Bk_b21_0 fu) fu s k | _ => none
theorem ev_b21 (fu : Nat) (a_0 : (Sl Int)) (b_1 : (Sl Int)) : evFun E (pc_b21 fu) msk_b21 (lp_b21 fu) out_bo 175 [(.rs a_0.z .i64 a_0.n a_0.f), (.rs b_1.z .i64 b_1.n b_1.f)] = F_laws_eqInt64S fu a_0 b_1 := by kernel_rfl
noncomputable def body_b21 : Code := Try.f175.body.getD .skip
noncomputable def lc_b21_0 : Code := ((loops 0 body_b21).getD 0 (0, .skip)).2
theorem round_b21_0 (fu : Nat) (it : St RT den → Option (Bool)) (k : Ex → St RT den → Option (Bool)) c w : evCode E (pc_b21 fu) msk_b21 (lp_b21 fu) 0 lc_b21_0 (back_b21_0 c w) (after (msk_b21 0) (msk_b21 100000) 0 it k) = Bk_b21_0 fu c k w (fun w => it (back_b21_0 c w)) := by kernel_rfl
theorem lpok_b21_0 (fu : Nat) : ∀ s k r, lp_b21 fu 0 s k = some r → ∃ fuel, iter (msk_b21 0) (msk_b21 100000) s.objs.length (evCode E (pc_b21 fu) msk_b21 (lp_b21 fu) 0 lc_b21_0) fuel s k = some r :=
  handle_ok (ps := ps_b21_0) (os := os_b21_0) (conv := conv_b21_0) (B := Bk_b21_0 fu) (fu := fu) back_b21_0 (fun raw => by kernel_rfl) 0 (fun c w => by kernel_rfl) (round_b21_0 fu)
theorem lpok_b21 (fu : Nat) : LpOk E (pc_b21 fu) msk_b21 (lp_b21 fu) (loops 0 body_b21) := loop_all 1 (by kernel_rfl) fun i hi => match i, hi with
  | 0, _ => by
    have h : (loops 0 body_b21).getD 0 (0, .skip) = (0, lc_b21_0) := by kernel_rfl
    rw [h]; exact lpok_b21_0 fu
  | i + 1, hi => absurd hi (by omega)
def S_b21 (fu : Nat) (xs : List (D RT den)) : Option (Out RT den) := match xs with | [.rs za0_0 .i64 na0_0 fa0_0, .rs za1_0 .i64 na1_0 fa1_0] => some ⟨Bool, F_laws_eqInt64S fu (⟨za0_0, na0_0, fa0_0⟩ : (Sl Int)) (⟨za1_0, na1_0, fa1_0⟩ : (Sl Int)), enc_bo, fun _ => true⟩ | _ => none
theorem goodv_b21 (fu : Nat) (a_0 : (Sl Int)) (b_1 : (Sl Int)) (y : Bool) (hy : F_laws_eqInt64S fu a_0 b_1 = some y) : Good E Try.prog 175 [(.rs a_0.z .i64 a_0.n a_0.f), (.rs b_1.z .i64 b_1.n b_1.f)] (enc_bo y) :=
  fun_good E_ok (pc_good (pc := pc_b21 fu) hpc0 hpx0) (fn := Try.f175) (c := body_b21) (out := out_bo) (y := y) (by kernel_rfl) (by kernel_rfl) (by kernel_rfl) (lpok_b21 fu) (fun d hd => out_bo_enc d _ hd) ((ev_b21 fu a_0 b_1).trans hy)
theorem good_b21 (fu : Nat) : ∀ xs o, S_b21 fu xs = some o → ∀ y, o.x = some y → Good E Try.prog 175 xs (o.g y) := by
  intro xs o h y hy
  unfold S_b21 at h
  split at h
  · rename_i za0_0 na0_0 fa0_0 za1_0 na1_0 fa1_0
    cases h
    exact goodv_b21 fu (⟨za0_0, na0_0, fa0_0⟩ : (Sl Int)) (⟨za1_0, na1_0, fa1_0⟩ : (Sl Int)) y hy
  · cases h

/-! laws.eqVip -/
def F_laws_eqVip (fu : Nat) (a_0 : S_impl_Vip) (b_1 : S_impl_Vip) : Option (Bool) :=
  (bif (a_0.Address != b_1.Address) then (some false) else (bif (a_0.Port != b_1.Port) then (some false) else (bif (a_0.Proto != b_1.Proto) then (some false) else ((F_laws_eqInt64S fu a_0.Names b_1.Names).bind fun y236 =>
    (bif (!y236) then (some false) else (some true))))))
def pcf_b22 (fu : Nat) (f : Nat) (xs : List (D RT den)) : Option (Out RT den) := match f with | 175 => S_b21 fu xs | _ => none
def pc_b22 (fu : Nat) : Pc RT den := ⟨pcf_b22 fu, fun _ => false, fun _ => false, pcd0, pcx0⟩
def msk_b22 (b : Nat) : List Nat := []
def lp_b22 (fu : Nat) : Lp RT den (Bool) := fun b s k => none
theorem ev_b22 (fu : Nat) (a_0 : S_impl_Vip) (b_1 : S_impl_Vip) : evFun E (pc_b22 fu) msk_b22 (lp_b22 fu) out_bo 139 [(.agg [(.int .i64 a_0.Address), (.int .i64 a_0.Port), (.int .i64 a_0.Proto), (.rs a_0.Names.z .i64 a_0.Names.n a_0.Names.f)]), (.agg [(.int .i64 b_1.Address), (.int .i64 b_1.Port), (.int .i64 b_1.Proto), (.rs b_1.Names.z .i64 b_1.Names.n b_1.Names.f)])] = F_laws_eqVip fu a_0 b_1 := by kernel_rfl
noncomputable def body_b22 : Code := Try.f139.body.getD .skip
theorem lpok_b22 (fu : Nat) : LpOk E (pc_b22 fu) msk_b22 (lp_b22 fu) (loops 0 body_b22) := by
  have h : loops 0 body_b22 = [] := by kernel_rfl
  rw [h]; intro p hp; cases hp
def S_b22 (fu : Nat) (xs : List (D RT den)) : Option (Out RT den) := match xs with | [.agg [.int .i64 a0_1, .int .i64 a0_2, .int .i64 a0_3, .rs za0_4 .i64 na0_4 fa0_4], .agg [.int .i64 a1_1, .int .i64 a1_2, .int .i64 a1_3, .rs za1_4 .i64 na1_4 fa1_4]] => some ⟨Bool, F_laws_eqVip fu (⟨a0_1, a0_2, a0_3, (⟨za0_4, na0_4, fa0_4⟩ : (Sl Int))⟩ : S_impl_Vip) (⟨a1_1, a1_2, a1_3, (⟨za1_4, na1_4, fa1_4⟩ : (Sl Int))⟩ : S_impl_Vip), enc_bo, fun _ => true⟩ | _ => none
theorem hpc_b22 (fu : Nat) : ∀ f xs o, pcf_b22 fu f xs = some o → ∀ y, o.x = some y → Good E Try.prog f xs (o.g y) := by
  intro f xs o h
  unfold pcf_b22 at h
  split at h
  · exact good_b21 fu xs o h
  · cases h
theorem goodv_b22 (fu : Nat) (a_0 : S_impl_Vip) (b_1 : S_impl_Vip) (y : Bool) (hy : F_laws_eqVip fu a_0 b_1 = some y) : Good E Try.prog 139 [(.agg [(.int .i64 a_0.Address), (.int .i64 a_0.Port), (.int .i64 a_0.Proto), (.rs a_0.Names.z .i64 a_0.Names.n a_0.Names.f)]), (.agg [(.int .i64 b_1.Address), (.int .i64 b_1.Port), (.int .i64 b_1.Proto), (.rs b_1.Names.z .i64 b_1.Names.n b_1.Names.f)])] (enc_bo y) :=
  fun_good E_ok (pc_good (pc := pc_b22 fu) (hpc_b22 fu) hpx0) (fn := Try.f139) (c := body_b22) (out := out_bo) (y := y) (by kernel_rfl) (by kernel_rfl) (by kernel_rfl) (lpok_b22 fu) (fun d hd => out_bo_enc d _ hd) ((ev_b22 fu a_0 b_1).trans hy)
theorem good_b22 (fu : Nat) : ∀ xs o, S_b22 fu xs = some o → ∀ y, o.x = some y → Good E Try.prog 139 xs (o.g y) := by
  intro xs o h y hy
  unfold S_b22 at h
  split at h
  · rename_i a0_1 a0_2 a0_3 za0_4 na0_4 fa0_4 a1_1 a1_2 a1_3 za1_4 na1_4 fa1_4
    cases h
    exact goodv_b22 fu (⟨a0_1, a0_2, a0_3, (⟨za0_4, na0_4, fa0_4⟩ : (Sl Int))⟩ : S_impl_Vip) (⟨a1_1, a1_2, a1_3, (⟨za1_4, na1_4, fa1_4⟩ : (Sl Int))⟩ : S_impl_Vip) y hy
  · cases h

/-! laws.eqVipS -/
def F_laws_eqVipS_B0 {ρ : Type} (fu : Nat) (a0_0 : (Sl S_impl_Vip)) (b1_1 : (Sl S_impl_Vip)) (k0 : Option ρ) (k1 : Option ρ) (i5_2 : Int) (go : Int → Option ρ) : Option ρ :=
  (bif (decide (i5_2 < ((a0_0.n : Nat) : Int))) then ((bif (decide (0 ≤ i5_2) && decide ((Int.toNat i5_2) < a0_0.n)) then some () else none : Option Unit).bind fun _ => ((bif (decide (0 ≤ i5_2) &&
    decide ((Int.toNat i5_2) < b1_1.n)) then some () else none : Option Unit).bind fun _ => ((F_laws_eqVip fu (a0_0.f (Int.toNat i5_2)) (b1_1.f (Int.toNat i5_2))).bind fun y235 =>
    (bif (!y235) then k0 else (go (IntKind.wrap .i64 (i5_2 + 1))))))) else k1)
def F_laws_eqVipS (fu : Nat) (a_0 : (Sl S_impl_Vip)) (b_1 : (Sl S_impl_Vip)) : Option (Bool) :=
  (bif (((a_0.n : Nat) : Int) != ((b_1.n : Nat) : Int)) then (some false) else (L (fun w0 go0 => F_laws_eqVipS_B0 fu a_0 b_1 (some false) (some true) w0 go0) fu (0 : Int)))
def pcf_b23 (fu : Nat) (f : Nat) (xs : List (D RT den)) : Option (Out RT den) := match f with | 139 => S_b22 fu xs | _ => none
def pc_b23 (fu : Nat) : Pc RT den := ⟨pcf_b23 fu, fun _ => false, fun _ => false, pcd0, pcx0⟩
def msk_b23 (b : Nat) : List Nat := match b with | 0 => [2, 3, 4, 6, 7, 8, 9, 10, 11, 12, 13, 14, 15, 16, 17, 18, 19, 20, 21, 22, 23, 24, 25, 26] | 100000 => [0, 1, 2, 3, 5, 6, 7, 8, 9, 10, 11, 12, 13, 14, 15, 16, 17, 18, 19, 20, 21, 22, 23, 24, 25, 26] | _ => []
def ps_b23_0 : List (Pat RT) := [.flat (.rs .impl_Vip), .flat (.rs .impl_Vip), .flat .q, .flat .q, .flat .q, .flat (.int .i64), .flat .q, .flat .q, .flat .q, .flat .q, .flat .q, .flat .q, .flat .q, .flat .q, .flat .q, .flat .q, .flat .q, .flat .q, .flat .q, .flat .q, .flat .q, .flat .q, .flat .q, .flat .q, .flat .q, .flat .q, .flat .q]
def os_b23_0 : List (OP RT) := []
def conv_b23_0 (r : Raw den ps_b23_0 os_b23_0) : ((Sl S_impl_Vip) × (Sl S_impl_Vip)) × (Int) := ((r.1.1, r.1.2.1), r.1.2.2.2.2.2.1)
def back_b23_0 (c : (Sl S_impl_Vip) × (Sl S_impl_Vip)) (w : Int) : St RT den := ⟨[(.rs c.1.z .impl_Vip c.1.n c.1.f), (.rs c.2.z .impl_Vip c.2.n c.2.f), .q, .q, .q, (.int .i64 w), .q, .q, .q, .q, .q, .q, .q, .q, .q, .q, .q, .q, .q, .q, .q, .q, .q, .q, .q, .q, .q], []⟩
def Bk_b23_0 {ρ : Type} (fu : Nat) (c : (Sl S_impl_Vip) × (Sl S_impl_Vip)) (k : Ex → St RT den → Option ρ) (w : Int) (go : (Int) → Option ρ) : Option ρ := F_laws_eqVipS_B0 fu c.1 c.2 (k .ret ⟨[.q, .q, .q, .q, (.bool false), .q, .q, .q, .q, .q, .q, .q, .q, .q, .q, .q, .q, .q, .q, .q, .q, .q, .q, .q, .q, .q, .q], []⟩) (k (.exit 0) ⟨[.q, .q, .q, .q, .q, .q, .q, .q, .q, .q, .q, .q, .q, .q, .q, .q, .q, .q, .q, .q, .q, .q, .q, .q, .q, .q, .q], []⟩) w go
def lp_b23 (fu : Nat) : Lp RT den (Bool) := fun b s k => match b with | 0 => handle ps_b23_0 os_b23_0 conv_b23_0 (Bk_b23_0 fu) fu s k | _ => none
theorem ev_b23 (fu : Nat) (a_0 : (Sl S_impl_Vip)) (b_1 : (Sl S_impl_Vip)) : evFun E (pc_b23 fu) msk_b23 (lp_b23 fu) out_bo 76 [(.rs a_0.z .impl_Vip a_0.n a_0.f), (.rs b_1.z .impl_Vip b_1.n b_1.f)] = F_laws_eqVipS fu a_0 b_1 := by kernel_rfl
noncomputable def body_b23 : Code := Try.f76.body.getD .skip
noncomputable def lc_b23_0 : Code := ((loops 0 body_b23).getD 0 (0, .skip)).2
theorem round_b23_0 (fu : Nat) (it : St RT den → Option (Bool)) (k : Ex → St RT den → Option (Bool)) c w : evCode E (pc_b23 fu) msk_b23 (lp_b23 fu) 0 lc_b23_0 (back_b23_0 c w) (after (msk_b23 0) (msk_b23 100000) 0 it k) = Bk_b23_0 fu c k w (fun w => it (back_b23_0 c w)) := by kernel_rfl
theorem lpok_b23_0 (fu : Nat) : ∀ s k r, lp_b23 fu 0 s k = some r → ∃ fuel, iter (msk_b23 0) (msk_b23 100000) s.objs.length (evCode E (pc_b23 fu) msk_b23 (lp_b23 fu) 0 lc_b23_0) fuel s k = some r :=
  handle_ok (ps := ps_b23_0) (os := os_b23_0) (conv := conv_b23_0) (B := Bk_b23_0 fu) (fu := fu) back_b23_0 (fun raw => by kernel_rfl) 0 (fun c w => by kernel_rfl) (round_b23_0 fu)
theorem lpok_b23 (fu : Nat) : LpOk E (pc_b23 fu) msk_b23 (lp_b23 fu) (loops 0 body_b23) := loop_all 1 (by kernel_rfl) fun i hi => match i, hi with
  | 0, _ => by
    have h : (loops 0 body_b23).getD 0 (0, .skip) = (0, lc_b23_0) := by kernel_rfl
    rw [h]; exact lpok_b23_0 fu
  | i + 1, hi => absurd hi (by omega)
def S_b23 (fu : Nat) (xs : List (D RT den)) : Option (Out RT den) := match xs with | [.rs za0_0 .impl_Vip na0_0 fa0_0, .rs za1_0 .impl_Vip na1_0 fa1_0] => some ⟨Bool, F_laws_eqVipS fu (⟨za0_0, na0_0, fa0_0⟩ : (Sl S_impl_Vip)) (⟨za1_0, na1_0, fa1_0⟩ : (Sl S_impl_Vip)), enc_bo, fun _ => true⟩ | _ => none
theorem hpc_b23 (fu : Nat) : ∀ f xs o, pcf_b23 fu f xs = some o → ∀ y, o.x = some y → Good E Try.prog f xs (o.g y) := by
  intro f xs o h
  unfold pcf_b23 at h
  split at h
  · exact good_b22 fu xs o h
  · cases h
theorem goodv_b23 (fu : Nat) (a_0 : (Sl S_impl_Vip)) (b_1 : (Sl S_impl_Vip)) (y : Bool) (hy : F_laws_eqVipS fu a_0 b_1 = some y) : Good E Try.prog 76 [(.rs a_0.z .impl_Vip a_0.n a_0.f), (.rs b_1.z .impl_Vip b_1.n b_1.f)] (enc_bo y) :=
  fun_good E_ok (pc_good (pc := pc_b23 fu) (hpc_b23 fu) hpx0) (fn := Try.f76) (c := body_b23) (out := out_bo) (y := y) (by kernel_rfl) (by kernel_rfl) (by kernel_rfl) (lpok_b23 fu) (fun d hd => out_bo_enc d _ hd) ((ev_b23 fu a_0 b_1).trans hy)
theorem good_b23 (fu : Nat) : ∀ xs o, S_b23 fu xs = some o → ∀ y, o.x = some y → Good E Try.prog 76 xs (o.g y) := by
  intro xs o h y hy
  unfold S_b23 at h
  split at h
  · rename_i za0_0 na0_0 fa0_0 za1_0 na1_0 fa1_0
    cases h
    exact goodv_b23 fu (⟨za0_0, na0_0, fa0_0⟩ : (Sl S_impl_Vip)) (⟨za1_0, na1_0, fa1_0⟩ : (Sl S_impl_Vip)) y hy
  · cases h

/-! laws.eqConfig -/
def F_laws_eqConfig (fu : Nat) (a_0 : S_impl_Config) (b_1 : S_impl_Config) : Option (Bool) :=
  (bif (a_0.Version != b_1.Version) then (some false) else ((F_laws_eqBackendS fu a_0.Backends b_1.Backends).bind fun y232 => (bif (!y232) then (some false) else ((F_laws_eqVipS fu a_0.Vips b_1.Vips).bind fun y233 =>
    (bif (!y233) then (some false) else (some true))))))
def pcf_b24 (fu : Nat) (f : Nat) (xs : List (D RT den)) : Option (Out RT den) := match f with | 75 => S_b20 fu xs | 76 => S_b23 fu xs | _ => none
def pc_b24 (fu : Nat) : Pc RT den := ⟨pcf_b24 fu, fun _ => false, fun _ => false, pcd0, pcx0⟩
def msk_b24 (b : Nat) : List Nat := []
def lp_b24 (fu : Nat) : Lp RT den (Bool) := fun b s k => none
theorem ev_b24 (fu : Nat) (a_0 : S_impl_Config) (b_1 : S_impl_Config) : evFun E (pc_b24 fu) msk_b24 (lp_b24 fu) out_bo 23 [(.agg [(.int .i64 a_0.Version), (.rs a_0.Backends.z .impl_Backend a_0.Backends.n a_0.Backends.f), (.rs a_0.Vips.z .impl_Vip a_0.Vips.n a_0.Vips.f)]), (.agg [(.int .i64 b_1.Version), (.rs b_1.Backends.z .impl_Backend b_1.Backends.n b_1.Backends.f), (.rs b_1.Vips.z .impl_Vip b_1.Vips.n b_1.Vips.f)])] = F_laws_eqConfig fu a_0 b_1 := by kernel_rfl
noncomputable def body_b24 : Code := Try.f23.body.getD .skip
theorem lpok_b24 (fu : Nat) : LpOk E (pc_b24 fu) msk_b24 (lp_b24 fu) (loops 0 body_b24) := by
  have h : loops 0 body_b24 = [] := by kernel_rfl
  rw [h]; intro p hp; cases hp
def S_b24 (fu : Nat) (xs : List (D RT den)) : Option (Out RT den) := match xs with | [.agg [.int .i64 a0_1, .rs za0_2 .impl_Backend na0_2 fa0_2, .rs za0_3 .impl_Vip na0_3 fa0_3], .agg [.int .i64 a1_1, .rs za1_2 .impl_Backend na1_2 fa1_2, .rs za1_3 .impl_Vip na1_3 fa1_3]] => some ⟨Bool, F_laws_eqConfig fu (⟨a0_1, (⟨za0_2, na0_2, fa0_2⟩ : (Sl S_impl_Backend)), (⟨za0_3, na0_3, fa0_3⟩ : (Sl S_impl_Vip))⟩ : S_impl_Config) (⟨a1_1, (⟨za1_2, na1_2, fa1_2⟩ : (Sl S_impl_Backend)), (⟨za1_3, na1_3, fa1_3⟩ : (Sl S_impl_Vip))⟩ : S_impl_Config), enc_bo, fun _ => true⟩ | _ => none
theorem hpc_b24 (fu : Nat) : ∀ f xs o, pcf_b24 fu f xs = some o → ∀ y, o.x = some y → Good E Try.prog f xs (o.g y) := by
  intro f xs o h
  unfold pcf_b24 at h
  split at h
  · exact good_b20 fu xs o h
  · exact good_b23 fu xs o h
  · cases h
theorem goodv_b24 (fu : Nat) (a_0 : S_impl_Config) (b_1 : S_impl_Config) (y : Bool) (hy : F_laws_eqConfig fu a_0 b_1 = some y) : Good E Try.prog 23 [(.agg [(.int .i64 a_0.Version), (.rs a_0.Backends.z .impl_Backend a_0.Backends.n a_0.Backends.f), (.rs a_0.Vips.z .impl_Vip a_0.Vips.n a_0.Vips.f)]), (.agg [(.int .i64 b_1.Version), (.rs b_1.Backends.z .impl_Backend b_1.Backends.n b_1.Backends.f), (.rs b_1.Vips.z .impl_Vip b_1.Vips.n b_1.Vips.f)])] (enc_bo y) :=
  fun_good E_ok (pc_good (pc := pc_b24 fu) (hpc_b24 fu) hpx0) (fn := Try.f23) (c := body_b24) (out := out_bo) (y := y) (by kernel_rfl) (by kernel_rfl) (by kernel_rfl) (lpok_b24 fu) (fun d hd => out_bo_enc d _ hd) ((ev_b24 fu a_0 b_1).trans hy)
theorem good_b24 (fu : Nat) : ∀ xs o, S_b24 fu xs = some o → ∀ y, o.x = some y → Good E Try.prog 23 xs (o.g y) := by
  intro xs o h y hy
  unfold S_b24 at h
  split at h
  · rename_i a0_1 za0_2 na0_2 fa0_2 za0_3 na0_3 fa0_3 a1_1 za1_2 na1_2 fa1_2 za1_3 na1_3 fa1_3
    cases h
    exact goodv_b24 fu (⟨a0_1, (⟨za0_2, na0_2, fa0_2⟩ : (Sl S_impl_Backend)), (⟨za0_3, na0_3, fa0_3⟩ : (Sl S_impl_Vip))⟩ : S_impl_Config) (⟨a1_1, (⟨za1_2, na1_2, fa1_2⟩ : (Sl S_impl_Backend)), (⟨za1_3, na1_3, fa1_3⟩ : (Sl S_impl_Vip))⟩ : S_impl_Config) y hy
  · cases h

/-! laws.eqVerdict -/
def F_laws_eqVerdict (fu : Nat) (a_0 : S_impl_Verdict) (b_1 : S_impl_Verdict) : Option (Bool) :=
  (bif (a_0.Prober != b_1.Prober) then (some false) else (bif (a_0.Name != b_1.Name) then (some false) else (bif (!(a_0.Up == b_1.Up)) then (some false) else (bif (a_0.Epoch != b_1.Epoch) then
    (some false) else (some true)))))
def pc_b25 (fu : Nat) : Pc RT den := ⟨pcf0, fun _ => false, fun _ => false, pcd0, pcx0⟩
def msk_b25 (b : Nat) : List Nat := []
def lp_b25 (fu : Nat) : Lp RT den (Bool) := fun b s k => none
theorem ev_b25 (fu : Nat) (a_0 : S_impl_Verdict) (b_1 : S_impl_Verdict) : evFun E (pc_b25 fu) msk_b25 (lp_b25 fu) out_bo 77 [(.agg [(.int .i64 a_0.Prober), (.int .i64 a_0.Name), (.bool a_0.Up), (.int .i64 a_0.Epoch)]), (.agg [(.int .i64 b_1.Prober), (.int .i64 b_1.Name), (.bool b_1.Up), (.int .i64 b_1.Epoch)])] = F_laws_eqVerdict fu a_0 b_1 := by kernel_rfl
noncomputable def body_b25 : Code := Try.f77.body.getD .skip
theorem lpok_b25 (fu : Nat) : LpOk E (pc_b25 fu) msk_b25 (lp_b25 fu) (loops 0 body_b25) := by
  have h : loops 0 body_b25 = [] := by kernel_rfl
  rw [h]; intro p hp; cases hp
def S_b25 (fu : Nat) (xs : List (D RT den)) : Option (Out RT den) := match xs with | [.agg [.int .i64 a0_1, .int .i64 a0_2, .bool a0_3, .int .i64 a0_4], .agg [.int .i64 a1_1, .int .i64 a1_2, .bool a1_3, .int .i64 a1_4]] => some ⟨Bool, F_laws_eqVerdict fu (⟨a0_1, a0_2, a0_3, a0_4⟩ : S_impl_Verdict) (⟨a1_1, a1_2, a1_3, a1_4⟩ : S_impl_Verdict), enc_bo, fun _ => true⟩ | _ => none
theorem goodv_b25 (fu : Nat) (a_0 : S_impl_Verdict) (b_1 : S_impl_Verdict) (y : Bool) (hy : F_laws_eqVerdict fu a_0 b_1 = some y) : Good E Try.prog 77 [(.agg [(.int .i64 a_0.Prober), (.int .i64 a_0.Name), (.bool a_0.Up), (.int .i64 a_0.Epoch)]), (.agg [(.int .i64 b_1.Prober), (.int .i64 b_1.Name), (.bool b_1.Up), (.int .i64 b_1.Epoch)])] (enc_bo y) :=
  fun_good E_ok (pc_good (pc := pc_b25 fu) hpc0 hpx0) (fn := Try.f77) (c := body_b25) (out := out_bo) (y := y) (by kernel_rfl) (by kernel_rfl) (by kernel_rfl) (lpok_b25 fu) (fun d hd => out_bo_enc d _ hd) ((ev_b25 fu a_0 b_1).trans hy)
theorem good_b25 (fu : Nat) : ∀ xs o, S_b25 fu xs = some o → ∀ y, o.x = some y → Good E Try.prog 77 xs (o.g y) := by
  intro xs o h y hy
  unfold S_b25 at h
  split at h
  · rename_i a0_1 a0_2 a0_3 a0_4 a1_1 a1_2 a1_3 a1_4
    cases h
    exact goodv_b25 fu (⟨a0_1, a0_2, a0_3, a0_4⟩ : S_impl_Verdict) (⟨a1_1, a1_2, a1_3, a1_4⟩ : S_impl_Verdict) y hy
  · cases h

/-! laws.eqVerdictS -/
def F_laws_eqVerdictS_B0 {ρ : Type} (fu : Nat) (a0_0 : (Sl S_impl_Verdict)) (b1_1 : (Sl S_impl_Verdict)) (k0 : Option ρ) (k1 : Option ρ) (i5_2 : Int) (go : Int → Option ρ) : Option ρ :=
  (bif (decide (i5_2 < ((a0_0.n : Nat) : Int))) then ((bif (decide (0 ≤ i5_2) && decide ((Int.toNat i5_2) < a0_0.n)) then some () else none : Option Unit).bind fun _ => ((bif (decide (0 ≤ i5_2) &&
    decide ((Int.toNat i5_2) < b1_1.n)) then some () else none : Option Unit).bind fun _ => ((F_laws_eqVerdict fu (a0_0.f (Int.toNat i5_2)) (b1_1.f (Int.toNat i5_2))).bind fun y237 =>
    (bif (!y237) then k0 else (go (IntKind.wrap .i64 (i5_2 + 1))))))) else k1)
def F_laws_eqVerdictS (fu : Nat) (a_0 : (Sl S_impl_Verdict)) (b_1 : (Sl S_impl_Verdict)) : Option (Bool) :=
  (bif (((a_0.n : Nat) : Int) != ((b_1.n : Nat) : Int)) then (some false) else (L (fun w0 go0 => F_laws_eqVerdictS_B0 fu a_0 b_1 (some false) (some true) w0 go0) fu (0 : Int)))
def pcf_b26 (fu : Nat) (f : Nat) (xs : List (D RT den)) : Option (Out RT den) := match f with | 77 => S_b25 fu xs | _ => none
def pc_b26 (fu : Nat) : Pc RT den := ⟨pcf_b26 fu, fun _ => false, fun _ => false, pcd0, pcx0⟩
def msk_b26 (b : Nat) : List Nat := match b with | 0 => [2, 3, 4, 6, 7, 8, 9, 10, 11, 12, 13, 14, 15, 16, 17, 18, 19, 20, 21, 22, 23, 24, 25, 26] | 100000 => [0, 1, 2, 3, 5, 6, 7, 8, 9, 10, 11, 12, 13, 14, 15, 16, 17, 18, 19, 20, 21, 22, 23, 24, 25, 26] | _ => []
def ps_b26_0 : List (Pat RT) := [.flat (.rs .impl_Verdict), .flat (.rs .impl_Verdict), .flat .q, .flat .q, .flat .q, .flat (.int .i64), .flat .q, .flat .q, .flat .q, .flat .q, .flat .q, .flat .q, .flat .q, .flat .q, .flat .q, .flat .q, .flat .q, .flat .q, .flat .q, .flat .q, .flat .q, .flat .q, .flat .q, .flat .q, .flat .q, .flat .q, .flat .q]
def os_b26_0 : List (OP RT) := []
def conv_b26_0 (r : Raw den ps_b26_0 os_b26_0) : ((Sl S_impl_Verdict) × (Sl S_impl_Verdict)) × (Int) := ((r.1.1, r.1.2.1), r.1.2.2.2.2.2.1)
def back_b26_0 (c : (Sl S_impl_Verdict) × (Sl S_impl_Verdict)) (w : Int) : St RT den := ⟨[(.rs c.1.z .impl_Verdict c.1.n c.1.f), (.rs c.2.z .impl_Verdict c.2.n c.2.f), .q, .q, .q, (.int .i64 w), .q, .q, .q, .q, .q, .q, .q, .q, .q, .q, .q, .q, .q, .q, .q, .q, .q, .q, .q, .q, .q], []⟩
def Bk_b26_0 {ρ : Type} (fu : Nat) (c : (Sl S_impl_Verdict) × (Sl S_impl_Verdict)) (k : Ex → St RT den → Option ρ) (w : Int) (go : (Int) → Option ρ) : Option ρ := F_laws_eqVerdictS_B0 fu c.1 c.2 (k .ret ⟨[.q, .q, .q, .q, (.bool false), .q, .q, .q, .q, .q, .q, .q, .q, .q, .q, .q, .q, .q, .q, .q, .q, .q, .q, .q, .q, .q, .q], []⟩) (k (.exit 0) ⟨[.q, .q, .q, .q, .q, .q, .q, .q, .q, .q, .q, .q, .q, .q, .q, .q, .q, .q, .q, .q, .q, .q, .q, .q, .q, .q, .q], []⟩) w go
def lp_b26 (fu : Nat) : Lp RT den (Bool) := fun b s k => match b with | 0 => handle ps_b26_0 os_b26_0 conv_b26_0 (Bk_b26_0 fu) fu s k | _ => none
theorem ev_b26 (fu : Nat) (a_0 : (Sl S_impl_Verdict)) (b_1 : (Sl S_impl_Verdict)) : evFun E (pc_b26 fu) msk_b26 (lp_b26 fu) out_bo 24 [(.rs a_0.z .impl_Verdict a_0.n a_0.f), (.rs b_1.z .impl_Verdict b_1.n b_1.f)] = F_laws_eqVerdictS fu a_0 b_1 := by kernel_rfl
noncomputable def body_b26 : Code := Try.f24.body.getD .skip
noncomputable def lc_b26_0 : Code := ((loops 0 body_b26).getD 0 (0, .skip)).2
theorem round_b26_0 (fu : Nat) (it : St RT den → Option (Bool)) (k : Ex → St RT den → Option (Bool)) c w : evCode E (pc_b26 fu) msk_b26 (lp_b26 fu) 0 lc_b26_0 (back_b26_0 c w) (after (msk_b26 0) (msk_b26 100000) 0 it k) = Bk_b26_0 fu c k w (fun w => it (back_b26_0 c w)) := by kernel_rfl
theorem lpok_b26_0 (fu : Nat) : ∀ s k r, lp_b26 fu 0 s k = some r → ∃ fuel, iter (msk_b26 0) (msk_b26 100000) s.objs.length (evCode E (pc_b26 fu) msk_b26 (lp_b26 fu) 0 lc_b26_0) fuel s k = some r :=
  handle_ok (ps := ps_b26_0) (os := os_b26_0) (conv := conv_b26_0) (B := Bk_b26_0 fu) (fu := fu) back_b26_0 (fun raw => by kernel_rfl) 0 (fun c w => by kernel_rfl) (round_b26_0 fu)
theorem lpok_b26 (fu : Nat) : LpOk E (pc_b26 fu) msk_b26 (lp_b26 fu) (loops 0 body_b26) := loop_all 1 (by kernel_rfl) fun i hi => match i, hi with
  | 0, _ => by
    have h : (loops 0 body_b26).getD 0 (0, .skip) = (0, lc_b26_0) := by kernel_rfl
    rw [h]; exact lpok_b26_0 fu
  | i + 1, hi => absurd hi (by omega)
def S_b26 (fu : Nat) (xs : List (D RT den)) : Option (Out RT den) := match xs with | [.rs za0_0 .impl_Verdict na0_0 fa0_0, .rs za1_0 .impl_Verdict na1_0 fa1_0] => some ⟨Bool, F_laws_eqVerdictS fu (⟨za0_0, na0_0, fa0_0⟩ : (Sl S_impl_Verdict)) (⟨za1_0, na1_0, fa1_0⟩ : (Sl S_impl_Verdict)), enc_bo, fun _ => true⟩ | _ => none
theorem hpc_b26 (fu : Nat) : ∀ f xs o, pcf_b26 fu f xs = some o → ∀ y, o.x = some y → Good E Try.prog f xs (o.g y) := by
  intro f xs o h
  unfold pcf_b26 at h
  split at h
  · exact good_b25 fu xs o h
  · cases h
theorem goodv_b26 (fu : Nat) (a_0 : (Sl S_impl_Verdict)) (b_1 : (Sl S_impl_Verdict)) (y : Bool) (hy : F_laws_eqVerdictS fu a_0 b_1 = some y) : Good E Try.prog 24 [(.rs a_0.z .impl_Verdict a_0.n a_0.f), (.rs b_1.z .impl_Verdict b_1.n b_1.f)] (enc_bo y) :=
  fun_good E_ok (pc_good (pc := pc_b26 fu) (hpc_b26 fu) hpx0) (fn := Try.f24) (c := body_b26) (out := out_bo) (y := y) (by kernel_rfl) (by kernel_rfl) (by kernel_rfl) (lpok_b26 fu) (fun d hd => out_bo_enc d _ hd) ((ev_b26 fu a_0 b_1).trans hy)
theorem good_b26 (fu : Nat) : ∀ xs o, S_b26 fu xs = some o → ∀ y, o.x = some y → Good E Try.prog 24 xs (o.g y) := by
  intro xs o h y hy
  unfold S_b26 at h
  split at h
  · rename_i za0_0 na0_0 fa0_0 za1_0 na1_0 fa1_0
    cases h
    exact goodv_b26 fu (⟨za0_0, na0_0, fa0_0⟩ : (Sl S_impl_Verdict)) (⟨za1_0, na1_0, fa1_0⟩ : (Sl S_impl_Verdict)) y hy
  · cases h

/-! laws.heldCmdS -/
def F_laws_heldCmdS_B0 {ρ : Type} (fu : Nat) (a0_0 : (Sl S_impl_Cmd)) (k0 : Int → Option ρ) (k1 : Int → Option ρ) (k1_1 : Int) (i5_2 : Int) (go : Int → Int → Option ρ) : Option ρ :=
  (bif (decide (i5_2 < ((a0_0.n : Nat) : Int))) then ((bif (decide (0 ≤ i5_2) && decide ((Int.toNat i5_2) < a0_0.n)) then some () else none : Option Unit).bind fun _ => (bif ((a0_0.f (Int.toNat i5_2)).Kind != k1_1) then
    (k0 k1_1) else ((bif (decide (0 ≤ i5_2) && decide ((Int.toNat i5_2) < a0_0.n)) then some () else none : Option Unit).bind fun _ => (bif ((a0_0.f (Int.toNat i5_2)).Expect != (IntKind.wrap .i64 (k1_1 + 1))) then
    (k0 (IntKind.wrap .i64 (k1_1 + 1))) else ((bif (decide (0 ≤ i5_2) && decide ((Int.toNat i5_2) < a0_0.n)) then some () else none : Option Unit).bind fun _ => (bif ((a0_0.f (Int.toNat i5_2)).Name != (IntKind.wrap .i64 ((IntKind.wrap .i64 (k1_1 + 1)) + 1))) then
    (k0 (IntKind.wrap .i64 ((IntKind.wrap .i64 (k1_1 + 1)) + 1))) else ((bif (decide (0 ≤ i5_2) && decide ((Int.toNat i5_2) < a0_0.n)) then some () else none : Option Unit).bind fun _ =>
    (bif ((a0_0.f (Int.toNat i5_2)).Addr != (IntKind.wrap .i64 ((IntKind.wrap .i64 ((IntKind.wrap .i64 (k1_1 + 1)) + 1)) + 1))) then (k0 (IntKind.wrap .i64 ((IntKind.wrap .i64 ((IntKind.wrap .i64 (k1_1 + 1)) + 1)) + 1))) else
    ((bif (decide (0 ≤ i5_2) && decide ((Int.toNat i5_2) < a0_0.n)) then some () else none : Option Unit).bind fun _ => (bif ((a0_0.f (Int.toNat i5_2)).Number != (IntKind.wrap .i64 ((IntKind.wrap .i64 ((IntKind.wrap .i64 ((IntKind.wrap .i64 (k1_1 + 1)) + 1)) + 1)) + 1))) then
    (k0 (IntKind.wrap .i64 ((IntKind.wrap .i64 ((IntKind.wrap .i64 ((IntKind.wrap .i64 (k1_1 + 1)) + 1)) + 1)) + 1))) else ((bif (decide (0 ≤ i5_2) && decide ((Int.toNat i5_2) < a0_0.n)) then
    some () else none : Option Unit).bind fun _ => (bif ((a0_0.f (Int.toNat i5_2)).Proto != (IntKind.wrap .i64 ((IntKind.wrap .i64 ((IntKind.wrap .i64 ((IntKind.wrap .i64 ((IntKind.wrap .i64 (k1_1 + 1)) + 1)) + 1)) + 1)) + 1))) then
    (k0 (IntKind.wrap .i64 ((IntKind.wrap .i64 ((IntKind.wrap .i64 ((IntKind.wrap .i64 ((IntKind.wrap .i64 (k1_1 + 1)) + 1)) + 1)) + 1)) + 1))) else (go (IntKind.wrap .i64 ((IntKind.wrap .i64 ((IntKind.wrap .i64 ((IntKind.wrap .i64 ((IntKind.wrap .i64 ((IntKind.wrap .i64 (k1_1 + 1)) + 1)) + 1)) + 1)) + 1)) + 1)) (IntKind.wrap .i64 (i5_2 + 1))))))))))))))) else
    (k1 k1_1))
def F_laws_heldCmdS (fu : Nat) (a_0 : (Sl S_impl_Cmd)) (k_1 : Int) : Option (Int) :=
  (L (fun w0 go0 => F_laws_heldCmdS_B0 fu a_0 (fun z239 => (some (-1))) (fun z240 => (some z240)) w0.1 w0.2 (fun q0 q1 => go0 (q0, q1))) fu ((k_1, 0) : Int × Int))
def pc_b27 (fu : Nat) : Pc RT den := ⟨pcf0, fun _ => false, fun _ => false, pcd0, pcx0⟩
def msk_b27 (b : Nat) : List Nat := match b with | 0 => [2, 3, 4, 6, 7, 8, 9, 10, 11, 12, 13, 14, 15, 16, 17, 18, 19, 20, 21, 22, 23, 24, 25, 26, 27, 28, 29, 30, 31, 32, 33, 34, 35, 36, 37, 38, 39, 40, 41, 42, 43, 44, 45, 46, 47, 48, 49, 50, 51, 52, 53, 54, 55, 56, 57, 58, 59, 60, 61, 62, 63, 64, 65, 66] | 100000 => [0, 2, 3, 5, 6, 7, 8, 9, 10, 11, 12, 13, 14, 15, 16, 17, 18, 19, 20, 21, 22, 23, 24, 25, 26, 27, 28, 29, 30, 31, 32, 33, 34, 35, 36, 37, 38, 39, 40, 41, 42, 43, 44, 45, 46, 47, 48, 49, 50, 51, 52, 53, 54, 55, 56, 57, 58, 59, 60, 61, 62, 63, 64, 65, 66] | _ => []
def ps_b27_0 : List (Pat RT) := [.flat (.rs .impl_Cmd), .flat (.int .i64), .flat .q, .flat .q, .flat .q, .flat (.int .i64), .flat .q, .flat .q, .flat .q, .flat .q, .flat .q, .flat .q, .flat .q, .flat .q, .flat .q, .flat .q, .flat .q, .flat .q, .flat .q, .flat .q, .flat .q, .flat .q, .flat .q, .flat .q, .flat .q, .flat .q, .flat .q, .flat .q, .flat .q, .flat .q, .flat .q, .flat .q, .flat .q, .flat .q, .flat .q, .flat .q, .flat .q, .flat .q, .flat .q, .flat .q, .flat .q, .flat .q, .flat .q, .flat .q, .flat .q, .flat .q, .flat .q, .flat .q, .flat .q, .flat .q, .flat .q, .flat .q, .flat .q, .flat .q, .flat .q, .flat .q, .flat .q, .flat .q, .flat .q, .flat .q, .flat .q, .flat .q, .flat .q, .flat .q, .flat .q, .flat .q, .flat .q]
def os_b27_0 : List (OP RT) := []
def conv_b27_0 (r : Raw den ps_b27_0 os_b27_0) : ((Sl S_impl_Cmd)) × (Int × Int) := (r.1.1, (r.1.2.1, r.1.2.2.2.2.2.1))
def back_b27_0 (c : (Sl S_impl_Cmd)) (w : Int × Int) : St RT den := ⟨[(.rs c.z .impl_Cmd c.n c.f), (.int .i64 w.1), .q, .q, .q, (.int .i64 w.2), .q, .q, .q, .q, .q, .q, .q, .q, .q, .q, .q, .q, .q, .q, .q, .q, .q, .q, .q, .q, .q, .q, .q, .q, .q, .q, .q, .q, .q, .q, .q, .q, .q, .q, .q, .q, .q, .q, .q, .q, .q, .q, .q, .q, .q, .q, .q, .q, .q, .q, .q, .q, .q, .q, .q, .q, .q, .q, .q, .q, .q], []⟩
def Bk_b27_0 {ρ : Type} (fu : Nat) (c : (Sl S_impl_Cmd)) (k : Ex → St RT den → Option ρ) (w : Int × Int) (go : (Int × Int) → Option ρ) : Option ρ := F_laws_heldCmdS_B0 fu c (fun a0 => k .ret ⟨[.q, (.int .i64 a0), .q, .q, (.int .i64 (-1)), .q, .q, .q, .q, .q, .q, .q, .q, .q, .q, .q, .q, .q, .q, .q, .q, .q, .q, .q, .q, .q, .q, .q, .q, .q, .q, .q, .q, .q, .q, .q, .q, .q, .q, .q, .q, .q, .q, .q, .q, .q, .q, .q, .q, .q, .q, .q, .q, .q, .q, .q, .q, .q, .q, .q, .q, .q, .q, .q, .q, .q, .q], []⟩) (fun a0 => k (.exit 0) ⟨[.q, (.int .i64 a0), .q, .q, .q, .q, .q, .q, .q, .q, .q, .q, .q, .q, .q, .q, .q, .q, .q, .q, .q, .q, .q, .q, .q, .q, .q, .q, .q, .q, .q, .q, .q, .q, .q, .q, .q, .q, .q, .q, .q, .q, .q, .q, .q, .q, .q, .q, .q, .q, .q, .q, .q, .q, .q, .q, .q, .q, .q, .q, .q, .q, .q, .q, .q, .q, .q], []⟩) w.1 w.2 (fun q0 q1 => go (q0, q1))
def lp_b27 (fu : Nat) : Lp RT den (Int) := fun b s k => match b with | 0 => handle ps_b27_0 os_b27_0 conv_b27_0 (Bk_b27_0 fu) fu s k | _ => none
theorem ev_b27 (fu : Nat) (a_0 : (Sl S_impl_Cmd)) (k_1 : Int) : evFun E (pc_b27 fu) msk_b27 (lp_b27 fu) out_i64 81 [(.rs a_0.z .impl_Cmd a_0.n a_0.f), (.int .i64 k_1)] = F_laws_heldCmdS fu a_0 k_1 := by kernel_rfl
noncomputable def body_b27 : Code := Try.f81.body.getD .skip
noncomputable def lc_b27_0 : Code := ((loops 0 body_b27).getD 0 (0, .skip)).2
theorem round_b27_0 (fu : Nat) (it : St RT den → Option (Int)) (k : Ex → St RT den → Option (Int)) c w : evCode E (pc_b27 fu) msk_b27 (lp_b27 fu) 0 lc_b27_0 (back_b27_0 c w) (after (msk_b27 0) (msk_b27 100000) 0 it k) = Bk_b27_0 fu c k w (fun w => it (back_b27_0 c w)) := by kernel_rfl
theorem lpok_b27_0 (fu : Nat) : ∀ s k r, lp_b27 fu 0 s k = some r → ∃ fuel, iter (msk_b27 0) (msk_b27 100000) s.objs.length (evCode E (pc_b27 fu) msk_b27 (lp_b27 fu) 0 lc_b27_0) fuel s k = some r :=
  handle_ok (ps := ps_b27_0) (os := os_b27_0) (conv := conv_b27_0) (B := Bk_b27_0 fu) (fu := fu) back_b27_0 (fun raw => by kernel_rfl) 0 (fun c w => by kernel_rfl) (round_b27_0 fu)
theorem lpok_b27 (fu : Nat) : LpOk E (pc_b27 fu) msk_b27 (lp_b27 fu) (loops 0 body_b27) := loop_all 1 (by kernel_rfl) fun i hi => match i, hi with
  | 0, _ => by
    have h : (loops 0 body_b27).getD 0 (0, .skip) = (0, lc_b27_0) := by kernel_rfl
    rw [h]; exact lpok_b27_0 fu
  | i + 1, hi => absurd hi (by omega)
def S_b27 (fu : Nat) (xs : List (D RT den)) : Option (Out RT den) := match xs with | [.rs za0_0 .impl_Cmd na0_0 fa0_0, .int .i64 a1_0] => some ⟨Int, F_laws_heldCmdS fu (⟨za0_0, na0_0, fa0_0⟩ : (Sl S_impl_Cmd)) a1_0, enc_i64, fun _ => true⟩ | _ => none
theorem goodv_b27 (fu : Nat) (a_0 : (Sl S_impl_Cmd)) (k_1 : Int) (y : Int) (hy : F_laws_heldCmdS fu a_0 k_1 = some y) : Good E Try.prog 81 [(.rs a_0.z .impl_Cmd a_0.n a_0.f), (.int .i64 k_1)] (enc_i64 y) :=
  fun_good E_ok (pc_good (pc := pc_b27 fu) hpc0 hpx0) (fn := Try.f81) (c := body_b27) (out := out_i64) (y := y) (by kernel_rfl) (by kernel_rfl) (by kernel_rfl) (lpok_b27 fu) (fun d hd => out_i64_enc d _ hd) ((ev_b27 fu a_0 k_1).trans hy)
theorem good_b27 (fu : Nat) : ∀ xs o, S_b27 fu xs = some o → ∀ y, o.x = some y → Good E Try.prog 81 xs (o.g y) := by
  intro xs o h y hy
  unfold S_b27 at h
  split at h
  · rename_i za0_0 na0_0 fa0_0 a1_0
    cases h
    exact goodv_b27 fu (⟨za0_0, na0_0, fa0_0⟩ : (Sl S_impl_Cmd)) a1_0 y hy
  · cases h
end Go.Proofs.Ytmnbmponjhglcaa.Pe
