/- The functions' evaluated forms, each a proved summary. Conditions: none. -/
import Derived.Test.YtjdgfkmiaikegaaPdF4
namespace Go.Proofs.Ytjdgfkmiaikegaa.Pd
open Go Go.RowKit Go.Proofs Vm
set_option linter.unusedVariables false
set_option linter.unusedSimpArgs false
set_option maxRecDepth 100000
abbrev Yf0 : Type := Int × Nat × (Nat → S_impl_Entry) × Nat × (Nat → Int) × Nat × (Nat → Int) × Nat × (Nat → Int)
abbrev Yf1 : Type := Int × Nat × (Nat → S_impl_Entry) × Nat × (Nat → Int) × Nat × (Nat → Int) × Nat × (Nat → Int) × Nat × Nat × (Nat → S_impl_Mail)
/-! laws.markEntryS -/
def F_laws_markEntryS_L_B0 {ρ : Type} (fu : Nat) (a0_0 : Nat) (on0_3 : Nat) (k0 : Int → (Nat → S_impl_Entry) → Option ρ) (k1_1 : Int) (i5_2 : Int) (of0_4 : (Nat → S_impl_Entry)) (go : Int → Int → (Nat → S_impl_Entry) → Option ρ) : Option ρ :=
  (bif (decide (i5_2 < ((a0_0 : Nat) : Int))) then ((bif (decide (0 ≤ i5_2) && decide ((Int.toNat i5_2) < a0_0)) then some () else none : Option Unit).bind fun _ => ((bif (decide (0 ≤ i5_2) &&
    decide ((Int.toNat i5_2) < a0_0)) then some () else none : Option Unit).bind fun _ => ((bif (decide (0 ≤ i5_2) && decide ((Int.toNat i5_2) < a0_0)) then some () else none : Option Unit).bind fun _ =>
    ((bif (decide (0 ≤ i5_2) && decide ((Int.toNat i5_2) < a0_0)) then some () else none : Option Unit).bind fun _ => ((bif (decide (0 ≤ i5_2) && decide ((Int.toNat i5_2) < a0_0)) then
    some () else none : Option Unit).bind fun _ => ((bif (decide (0 ≤ i5_2) && decide ((Int.toNat i5_2) < a0_0)) then some () else none : Option Unit).bind fun _ => ((bif (decide (0 ≤ i5_2) &&
    decide ((Int.toNat i5_2) < a0_0)) then some () else none : Option Unit).bind fun _ => ((bif (decide (0 ≤ i5_2) && decide ((Int.toNat i5_2) < a0_0)) then some () else none : Option Unit).bind fun _ =>
    ((bif (decide (0 ≤ i5_2) && decide ((Int.toNat i5_2) < a0_0)) then some () else none : Option Unit).bind fun _ => (go (IntKind.wrap .i64 ((IntKind.wrap .i64 ((IntKind.wrap .i64 ((IntKind.wrap .i64 ((IntKind.wrap .i64 ((IntKind.wrap .i64 ((IntKind.wrap .i64 ((IntKind.wrap .i64 ((IntKind.wrap .i64 (k1_1 + 1)) + 1)) + 1)) + 1)) + 1)) + 1)) + 1)) + 1)) + 1)) (IntKind.wrap .i64 (i5_2 + 1)) (upd_impl_Entry_8_1 (upd_impl_Entry_7_1 (upd_impl_Entry_6_1 (upd_impl_Entry_5_1 (upd_impl_Entry_4_1 (upd_impl_Entry_3_1 (upd_impl_Entry_2_1 (upd_impl_Entry_1_1 (upd_impl_Entry_0_1 of0_4 (Int.toNat i5_2) k1_1) (Int.toNat i5_2) (IntKind.wrap .i64 (k1_1 + 1))) (Int.toNat i5_2) (IntKind.wrap .i64 ((IntKind.wrap .i64 (k1_1 + 1)) + 1))) (Int.toNat i5_2) (IntKind.wrap .i64 ((IntKind.wrap .i64 ((IntKind.wrap .i64 (k1_1 + 1)) + 1)) + 1))) (Int.toNat i5_2) (IntKind.wrap .i64 ((IntKind.wrap .i64 ((IntKind.wrap .i64 ((IntKind.wrap .i64 (k1_1 + 1)) + 1)) + 1)) + 1))) (Int.toNat i5_2) (IntKind.wrap .i64 ((IntKind.wrap .i64 ((IntKind.wrap .i64 ((IntKind.wrap .i64 ((IntKind.wrap .i64 (k1_1 + 1)) + 1)) + 1)) + 1)) + 1))) (Int.toNat i5_2) (IntKind.wrap .i64 ((IntKind.wrap .i64 ((IntKind.wrap .i64 ((IntKind.wrap .i64 ((IntKind.wrap .i64 ((IntKind.wrap .i64 (k1_1 + 1)) + 1)) + 1)) + 1)) + 1)) + 1))) (Int.toNat i5_2) (IntKind.wrap .i64 ((IntKind.wrap .i64 ((IntKind.wrap .i64 ((IntKind.wrap .i64 ((IntKind.wrap .i64 ((IntKind.wrap .i64 ((IntKind.wrap .i64 (k1_1 + 1)) + 1)) + 1)) + 1)) + 1)) + 1)) + 1))) (Int.toNat i5_2) (IntKind.wrap .i64 ((IntKind.wrap .i64 ((IntKind.wrap .i64 ((IntKind.wrap .i64 ((IntKind.wrap .i64 ((IntKind.wrap .i64 ((IntKind.wrap .i64 ((IntKind.wrap .i64 (k1_1 + 1)) + 1)) + 1)) + 1)) + 1)) + 1)) + 1)) + 1))))))))))))) else
    (k0 k1_1 of0_4))
def F_laws_markEntryS_L (fu : Nat) (a_0_0 : Nat) (k_1_1 : Int) (rn0 : Nat) (rf0 : (Nat → S_impl_Entry)) : Option (Int × (Nat × (Nat → S_impl_Entry))) :=
  (L (fun w0 go0 => F_laws_markEntryS_L_B0 fu a_0_0 rn0 (fun z373 z374 => (some (z373, (rn0, z374)))) w0.1 w0.2.1 w0.2.2 (fun q0 q1 q2 => go0 (q0, q1, q2))) fu ((k_1_1, 0, rf0) : Int × Int × (Nat → S_impl_Entry)))
def pc_b16 (fu : Nat) : Pc RT den := ⟨pcf0, fun _ => false, fun _ => false, pcd0, pcd0, pcx0⟩
def msk_b16 (b : Nat) : List Nat := match b with | 0 => (2 :: 3 :: 4 :: (rg 6 76 [])) | 100000 => (0 :: 2 :: 3 :: (rg 5 77 [])) | _ => []
def ps_b16_0 : List (Pat RT) := (.flat (.os 0) :: .flat (.int .i64) :: .flat .q :: .flat .q :: .flat .q :: .flat (.int .i64) :: (fq 76 []))
def os_b16_0 : List (OP RT) := [.row true .impl_Entry]
def conv_b16_0 (r : Raw den ps_b16_0 os_b16_0) : (Nat × Nat) × (Int × Int × (Nat → S_impl_Entry)) := ((r.1.1, r.2.1.1), (r.1.2.1, (e5 r.1).1, r.2.1.2))
def back_b16_0 (c : Nat × Nat) (w : Int × Int × (Nat → S_impl_Entry)) : St RT den := ⟨((.os 0 c.1) :: (.int .i64 w.1) :: .q :: .q :: .q :: (.int .i64 w.2.1) :: (qs 76 [])), [(.row true .impl_Entry c.2 w.2.2)]⟩
def Bk_b16_0 {ρ : Type} (fu : Nat) (c : Nat × Nat) (k : Ex → St RT den → Option ρ) (w : Int × Int × (Nat → S_impl_Entry)) (go : (Int × Int × (Nat → S_impl_Entry)) → Option ρ) : Option ρ := F_laws_markEntryS_L_B0 fu c.1 c.2 (fun a0 a1 => k (.exit 0) ⟨(.q :: (.int .i64 a0) :: (qs 80 [])), [(.row true .impl_Entry c.2 a1)]⟩) w.1 w.2.1 w.2.2 (fun q0 q1 q2 => go (q0, q1, q2))
def lp_b16 (fu : Nat) : Lp RT den (Int × (Nat × (Nat → S_impl_Entry))) := ⟨fun b s k => match b with | 0 => handle ps_b16_0 os_b16_0 conv_b16_0 (Bk_b16_0 fu) fu s k | _ => none, inl0⟩
def out_b16 (d : D RT den) (os : List (Ob RT den)) : Option (Int × (Nat × (Nat → S_impl_Entry))) := match d, os with | .int .i64 a0_0, [.row true .impl_Entry n0 f0] => some (a0_0, (n0, f0)) | _, _ => none
def enc_b16 (y : Int × (Nat × (Nat → S_impl_Entry))) : D RT den × List (Ob RT den) := ((.int .i64 y.1), [(.row true .impl_Entry y.2.1 y.2.2)])
theorem out_b16_enc (d : D RT den) (os : List (Ob RT den)) (y : Int × (Nat × (Nat → S_impl_Entry))) (h : out_b16 d os = some y) : (unh 1 d).1 = (enc_b16 y).1 ∧ os ++ (unh 1 d).2 = (enc_b16 y).2 := by
  unfold out_b16 at h
  split at h
  · cases h; exact ⟨rfl, rfl⟩
  · cases h
theorem ev_b16 (fu : Nat) (a_0_0 : Nat) (k_1_1 : Int) (rn0 : Nat) (rf0 : (Nat → S_impl_Entry)) : evFunX E false (pc_b16 fu) msk_b16 (lp_b16 fu) out_b16 41 [(.os 0 a_0_0), (.int .i64 k_1_1)] [(.row true .impl_Entry rn0 rf0)] = F_laws_markEntryS_L fu a_0_0 k_1_1 rn0 rf0 := by kernel_rfl
noncomputable def body_b16 : Code := Try.f41.body.getD .skip
noncomputable def lc_b16_0 : Code := ((loops 0 body_b16).getD 0 (0, .skip)).2
theorem round_b16_0 (fu : Nat) (it : St RT den → Option (Int × (Nat × (Nat → S_impl_Entry)))) (k : Ex → St RT den → Option (Int × (Nat × (Nat → S_impl_Entry)))) c w : evCode E (pc_b16 fu) msk_b16 (lp_b16 fu) 0 lc_b16_0 (back_b16_0 c w) (after (msk_b16 0) (msk_b16 100000) 1 it k) = Bk_b16_0 fu c k w (fun w => it (back_b16_0 c w)) := by kernel_rfl
theorem lpok_b16_0 (fu : Nat) : ∀ s k r, (lp_b16 fu).lp 0 s k = some r → ∃ fuel, iter (msk_b16 0) (msk_b16 100000) s.objs.length (evCode E (pc_b16 fu) msk_b16 (lp_b16 fu) 0 lc_b16_0) fuel s k = some r :=
  handle_ok (ps := ps_b16_0) (os := os_b16_0) (conv := conv_b16_0) (B := Bk_b16_0 fu) (fu := fu) back_b16_0 (fun raw => by kernel_rfl) 1 (fun c w => by kernel_rfl) (round_b16_0 fu)
theorem lpok_b16 (fu : Nat) : LpOk E (pc_b16 fu) 0 msk_b16 (lp_b16 fu) (loops 0 body_b16) := lp_nil (loop_all 1 (by kernel_rfl) fun i hi => match i, hi with
  | 0, _ => by
    have h : (loops 0 body_b16).getD 0 (0, .skip) = (0, lc_b16_0) := by kernel_rfl
    rw [h]; exact lpok_b16_0 fu
  | i + 1, hi => absurd hi (by omega)) (by kernel_rfl)
def S_b16 (fu : Nat) (xs : List (D RT den)) (ins : List (Ob RT den)) : Option (OutX RT den) := match xs, ins with | [.os 0 a0_0, .int .i64 a1_0], [.row true .impl_Entry rn0 rf0] => some ⟨Int × (Nat × (Nat → S_impl_Entry)), F_laws_markEntryS_L fu a0_0 a1_0 rn0 rf0, enc_b16⟩ | _, _ => none
theorem goodv_b16 (fu : Nat) (a_0_0 : Nat) (k_1_1 : Int) (rn0 : Nat) (rf0 : (Nat → S_impl_Entry)) (y : Int × (Nat × (Nat → S_impl_Entry))) (hy : F_laws_markEntryS_L fu a_0_0 k_1_1 rn0 rf0 = some y) : GoodX E Try.prog 41 [(.os 0 a_0_0), (.int .i64 k_1_1)] [(.row true .impl_Entry rn0 rf0)] (enc_b16 y).1 (enc_b16 y).2 :=
  funX_good (ke := false) E_ok (pc_good (pc := pc_b16 fu) hpc0 hpx0) (fn := Try.f41) (c := body_b16) (out := out_b16) (y := y) (by kernel_rfl) (by kernel_rfl) (by kernel_rfl) (lpok_b16 fu) (by kernel_rfl) (Nat.le_refl _) (fun d os hd => out_b16_enc d os _ hd) ((ev_b16 fu a_0_0 k_1_1 rn0 rf0).trans hy)
theorem good_b16 (fu : Nat) : ∀ xs ins o, S_b16 fu xs ins = some o → ∀ y, o.x = some y → GoodX E Try.prog 41 xs ins (o.g y).1 (o.g y).2 := by
  intro xs ins o h y hy
  unfold S_b16 at h
  split at h
  · rename_i a0_0 a1_0 rn0 rf0
    cases h
    exact goodv_b16 fu a0_0 a1_0 rn0 rf0 y hy
  · cases h

/-! laws.markInt64S -/
def F_laws_markInt64S_L_B0 {ρ : Type} (fu : Nat) (a0_0 : Nat) (on0_3 : Nat) (k0 : Int → (Nat → Int) → Option ρ) (k1_1 : Int) (i5_2 : Int) (of0_4 : (Nat → Int)) (go : Int → Int → (Nat → Int) → Option ρ) : Option ρ :=
  (bif (decide (i5_2 < ((a0_0 : Nat) : Int))) then ((bif (decide (0 ≤ i5_2) && decide ((Int.toNat i5_2) < a0_0)) then some () else none : Option Unit).bind fun _ => (go (IntKind.wrap .i64 (k1_1 + 1)) (IntKind.wrap .i64 (i5_2 + 1)) (fun j =>
    if j = (Int.toNat i5_2) then k1_1 else of0_4 j))) else (k0 k1_1 of0_4))
def F_laws_markInt64S_L (fu : Nat) (a_0_0 : Nat) (k_1_1 : Int) (rn0 : Nat) (rf0 : (Nat → Int)) : Option (Int × (Nat × (Nat → Int))) :=
  (L (fun w0 go0 => F_laws_markInt64S_L_B0 fu a_0_0 rn0 (fun z376 z377 => (some (z376, (rn0, z377)))) w0.1 w0.2.1 w0.2.2 (fun q0 q1 q2 => go0 (q0, q1, q2))) fu ((k_1_1, 0, rf0) : Int × Int × (Nat → Int)))
def pc_b17 (fu : Nat) : Pc RT den := ⟨pcf0, fun _ => false, fun _ => false, pcd0, pcd0, pcx0⟩
def msk_b17 (b : Nat) : List Nat := match b with | 0 => (2 :: 3 :: 4 :: (rg 6 13 [])) | 100000 => (0 :: 2 :: 3 :: (rg 5 14 [])) | _ => []
def ps_b17_0 : List (Pat RT) := (.flat (.os 0) :: .flat (.int .i64) :: .flat .q :: .flat .q :: .flat .q :: .flat (.int .i64) :: (fq 13 []))
def os_b17_0 : List (OP RT) := [.row true .i64]
def conv_b17_0 (r : Raw den ps_b17_0 os_b17_0) : (Nat × Nat) × (Int × Int × (Nat → Int)) := ((r.1.1, r.2.1.1), (r.1.2.1, (e5 r.1).1, r.2.1.2))
def back_b17_0 (c : Nat × Nat) (w : Int × Int × (Nat → Int)) : St RT den := ⟨((.os 0 c.1) :: (.int .i64 w.1) :: .q :: .q :: .q :: (.int .i64 w.2.1) :: (qs 13 [])), [(.row true .i64 c.2 w.2.2)]⟩
def Bk_b17_0 {ρ : Type} (fu : Nat) (c : Nat × Nat) (k : Ex → St RT den → Option ρ) (w : Int × Int × (Nat → Int)) (go : (Int × Int × (Nat → Int)) → Option ρ) : Option ρ := F_laws_markInt64S_L_B0 fu c.1 c.2 (fun a0 a1 => k (.exit 0) ⟨(.q :: (.int .i64 a0) :: (qs 17 [])), [(.row true .i64 c.2 a1)]⟩) w.1 w.2.1 w.2.2 (fun q0 q1 q2 => go (q0, q1, q2))
def lp_b17 (fu : Nat) : Lp RT den (Int × (Nat × (Nat → Int))) := ⟨fun b s k => match b with | 0 => handle ps_b17_0 os_b17_0 conv_b17_0 (Bk_b17_0 fu) fu s k | _ => none, inl0⟩
def out_b17 (d : D RT den) (os : List (Ob RT den)) : Option (Int × (Nat × (Nat → Int))) := match d, os with | .int .i64 a0_0, [.row true .i64 n0 f0] => some (a0_0, (n0, f0)) | _, _ => none
def enc_b17 (y : Int × (Nat × (Nat → Int))) : D RT den × List (Ob RT den) := ((.int .i64 y.1), [(.row true .i64 y.2.1 y.2.2)])
theorem out_b17_enc (d : D RT den) (os : List (Ob RT den)) (y : Int × (Nat × (Nat → Int))) (h : out_b17 d os = some y) : (unh 1 d).1 = (enc_b17 y).1 ∧ os ++ (unh 1 d).2 = (enc_b17 y).2 := by
  unfold out_b17 at h
  split at h
  · cases h; exact ⟨rfl, rfl⟩
  · cases h
theorem ev_b17 (fu : Nat) (a_0_0 : Nat) (k_1_1 : Int) (rn0 : Nat) (rf0 : (Nat → Int)) : evFunX E false (pc_b17 fu) msk_b17 (lp_b17 fu) out_b17 42 [(.os 0 a_0_0), (.int .i64 k_1_1)] [(.row true .i64 rn0 rf0)] = F_laws_markInt64S_L fu a_0_0 k_1_1 rn0 rf0 := by kernel_rfl
noncomputable def body_b17 : Code := Try.f42.body.getD .skip
noncomputable def lc_b17_0 : Code := ((loops 0 body_b17).getD 0 (0, .skip)).2
theorem round_b17_0 (fu : Nat) (it : St RT den → Option (Int × (Nat × (Nat → Int)))) (k : Ex → St RT den → Option (Int × (Nat × (Nat → Int)))) c w : evCode E (pc_b17 fu) msk_b17 (lp_b17 fu) 0 lc_b17_0 (back_b17_0 c w) (after (msk_b17 0) (msk_b17 100000) 1 it k) = Bk_b17_0 fu c k w (fun w => it (back_b17_0 c w)) := by kernel_rfl
theorem lpok_b17_0 (fu : Nat) : ∀ s k r, (lp_b17 fu).lp 0 s k = some r → ∃ fuel, iter (msk_b17 0) (msk_b17 100000) s.objs.length (evCode E (pc_b17 fu) msk_b17 (lp_b17 fu) 0 lc_b17_0) fuel s k = some r :=
  handle_ok (ps := ps_b17_0) (os := os_b17_0) (conv := conv_b17_0) (B := Bk_b17_0 fu) (fu := fu) back_b17_0 (fun raw => by kernel_rfl) 1 (fun c w => by kernel_rfl) (round_b17_0 fu)
theorem lpok_b17 (fu : Nat) : LpOk E (pc_b17 fu) 0 msk_b17 (lp_b17 fu) (loops 0 body_b17) := lp_nil (loop_all 1 (by kernel_rfl) fun i hi => match i, hi with
  | 0, _ => by
    have h : (loops 0 body_b17).getD 0 (0, .skip) = (0, lc_b17_0) := by kernel_rfl
    rw [h]; exact lpok_b17_0 fu
  | i + 1, hi => absurd hi (by omega)) (by kernel_rfl)
def S_b17 (fu : Nat) (xs : List (D RT den)) (ins : List (Ob RT den)) : Option (OutX RT den) := match xs, ins with | [.os 0 a0_0, .int .i64 a1_0], [.row true .i64 rn0 rf0] => some ⟨Int × (Nat × (Nat → Int)), F_laws_markInt64S_L fu a0_0 a1_0 rn0 rf0, enc_b17⟩ | _, _ => none
theorem goodv_b17 (fu : Nat) (a_0_0 : Nat) (k_1_1 : Int) (rn0 : Nat) (rf0 : (Nat → Int)) (y : Int × (Nat × (Nat → Int))) (hy : F_laws_markInt64S_L fu a_0_0 k_1_1 rn0 rf0 = some y) : GoodX E Try.prog 42 [(.os 0 a_0_0), (.int .i64 k_1_1)] [(.row true .i64 rn0 rf0)] (enc_b17 y).1 (enc_b17 y).2 :=
  funX_good (ke := false) E_ok (pc_good (pc := pc_b17 fu) hpc0 hpx0) (fn := Try.f42) (c := body_b17) (out := out_b17) (y := y) (by kernel_rfl) (by kernel_rfl) (by kernel_rfl) (lpok_b17 fu) (by kernel_rfl) (Nat.le_refl _) (fun d os hd => out_b17_enc d os _ hd) ((ev_b17 fu a_0_0 k_1_1 rn0 rf0).trans hy)
theorem good_b17 (fu : Nat) : ∀ xs ins o, S_b17 fu xs ins = some o → ∀ y, o.x = some y → GoodX E Try.prog 42 xs ins (o.g y).1 (o.g y).2 := by
  intro xs ins o h y hy
  unfold S_b17 at h
  split at h
  · rename_i a0_0 a1_0 rn0 rf0
    cases h
    exact goodv_b17 fu a0_0 a1_0 rn0 rf0 y hy
  · cases h

/-! laws.markNode -/
def F_laws_markNode_L (fu : Nat) (a_0_0 : Int) (a_0_1 : Int) (a_0_2 : Int) (a_0_3 : Int) (a_0_4 : Nat) (a_0_5 : Int) (a_0_6 : Int) (a_0_7 : Nat) (a_0_8 : Nat) (a_0_9 : Nat) (k_1_10 : Int) (rn0 : Nat) (rf0 : (Nat → S_impl_Entry)) (rn1 : Nat) (rf1 : (Nat → Int)) (rn2 : Nat) (rf2 : (Nat → Int)) (rn3 : Nat) (rf3 : (Nat → Int)) : Option (Int × (Nat × (Nat → S_impl_Entry)) × (Nat × (Nat → Int)) × (Nat × (Nat → Int)) × (Nat × (Nat → Int))) :=
  ((F_laws_markEntryS_L fu a_0_4 k_1_10 rn0 rf0).bind fun y375 => ((F_laws_markInt64S_L fu a_0_7 y375.1 rn1 rf1).bind fun y378 => ((F_laws_markInt64S_L fu a_0_8 y378.1 rn2 rf2).bind fun y379 =>
    ((F_laws_markInt64S_L fu a_0_9 y379.1 rn3 rf3).bind fun y380 => (some (y380.1, (y375.2.1, y375.2.2), (y378.2.1, y378.2.2), (y379.2.1, y379.2.2), (y380.2.1, y380.2.2)))))))
def pcx_b18 (fu : Nat) (f : Nat) (xs : List (D RT den)) (ins : List (Ob RT den)) : Option (OutX RT den) := match f with | 41 => S_b16 fu xs ins | 42 => S_b17 fu xs ins | _ => none
def pcd_b18 : Nat → Bool := fun _ => false
def pc_b18 (fu : Nat) : Pc RT den := ⟨pcf0, fun f => match f with | 41 => true | 42 => true | _ => false, fun f => match f with | 41 => true | 42 => true | _ => false, pcd_b18, pcd0, pcx_b18 fu⟩
def msk_b18 (b : Nat) : List Nat := []
def lp_b18 (fu : Nat) : Lp RT den (Int × (Nat × (Nat → S_impl_Entry)) × (Nat × (Nat → Int)) × (Nat × (Nat → Int)) × (Nat × (Nat → Int))) := ⟨fun b s k => none, inl0⟩
def out_b18 (d : D RT den) (os : List (Ob RT den)) : Option (Int × (Nat × (Nat → S_impl_Entry)) × (Nat × (Nat → Int)) × (Nat × (Nat → Int)) × (Nat × (Nat → Int))) := match d, os with | .int .i64 a0_0, [.row true .impl_Entry n0 f0, .row true .i64 n1 f1, .row true .i64 n2 f2, .row true .i64 n3 f3] => some (a0_0, (n0, f0), (n1, f1), (n2, f2), (n3, f3)) | _, _ => none
def enc_b18 (y : Int × (Nat × (Nat → S_impl_Entry)) × (Nat × (Nat → Int)) × (Nat × (Nat → Int)) × (Nat × (Nat → Int))) : D RT den × List (Ob RT den) := ((.int .i64 y.1), [(.row true .impl_Entry y.2.1.1 y.2.1.2), (.row true .i64 y.2.2.1.1 y.2.2.1.2), (.row true .i64 y.2.2.2.1.1 y.2.2.2.1.2), (.row true .i64 y.2.2.2.2.1 y.2.2.2.2.2)])
theorem out_b18_enc (d : D RT den) (os : List (Ob RT den)) (y : Int × (Nat × (Nat → S_impl_Entry)) × (Nat × (Nat → Int)) × (Nat × (Nat → Int)) × (Nat × (Nat → Int))) (h : out_b18 d os = some y) : (unh 4 d).1 = (enc_b18 y).1 ∧ os ++ (unh 4 d).2 = (enc_b18 y).2 := by
  unfold out_b18 at h
  split at h
  · cases h; exact ⟨rfl, rfl⟩
  · cases h
theorem ev_b18 (fu : Nat) (a_0_0 : Int) (a_0_1 : Int) (a_0_2 : Int) (a_0_3 : Int) (a_0_4 : Nat) (a_0_5 : Int) (a_0_6 : Int) (a_0_7 : Nat) (a_0_8 : Nat) (a_0_9 : Nat) (k_1_10 : Int) (rn0 : Nat) (rf0 : (Nat → S_impl_Entry)) (rn1 : Nat) (rf1 : (Nat → Int)) (rn2 : Nat) (rf2 : (Nat → Int)) (rn3 : Nat) (rf3 : (Nat → Int)) : evFunX E false (pc_b18 fu) msk_b18 (lp_b18 fu) out_b18 12 [(.agg [(.int .i64 a_0_0), (.int .i64 a_0_1), (.int .i64 a_0_2), (.int .i64 a_0_3), (.os 0 a_0_4), (.int .i64 a_0_5), (.int .i64 a_0_6), (.os 1 a_0_7), (.os 2 a_0_8), (.os 3 a_0_9)]), (.int .i64 k_1_10)] [(.row true .impl_Entry rn0 rf0), (.row true .i64 rn1 rf1), (.row true .i64 rn2 rf2), (.row true .i64 rn3 rf3)] = F_laws_markNode_L fu a_0_0 a_0_1 a_0_2 a_0_3 a_0_4 a_0_5 a_0_6 a_0_7 a_0_8 a_0_9 k_1_10 rn0 rf0 rn1 rf1 rn2 rf2 rn3 rf3 := by kernel_rfl
noncomputable def body_b18 : Code := Try.f12.body.getD .skip
theorem lpok_b18 (fu : Nat) : LpOk E (pc_b18 fu) 0 msk_b18 (lp_b18 fu) (loops 0 body_b18) := lp_nil (loop_nil (by kernel_rfl)) (by kernel_rfl)
def S_b18 (fu : Nat) (xs : List (D RT den)) (ins : List (Ob RT den)) : Option (OutX RT den) := match xs, ins with | [.agg [.int .i64 a0_0, .int .i64 a0_1, .int .i64 a0_2, .int .i64 a0_3, .os 0 a0_4, .int .i64 a0_5, .int .i64 a0_6, .os 1 a0_7, .os 2 a0_8, .os 3 a0_9], .int .i64 a1_0], [.row true .impl_Entry rn0 rf0, .row true .i64 rn1 rf1, .row true .i64 rn2 rf2, .row true .i64 rn3 rf3] => some ⟨Int × (Nat × (Nat → S_impl_Entry)) × (Nat × (Nat → Int)) × (Nat × (Nat → Int)) × (Nat × (Nat → Int)), F_laws_markNode_L fu a0_0 a0_1 a0_2 a0_3 a0_4 a0_5 a0_6 a0_7 a0_8 a0_9 a1_0 rn0 rf0 rn1 rf1 rn2 rf2 rn3 rf3, enc_b18⟩ | _, _ => none
theorem hpx_b18 (fu : Nat) : ∀ f xs ins o, pcx_b18 fu f xs ins = some o → ∀ y, o.x = some y → GoodXD E Try.prog (pcd_b18 f) f xs ins (o.g y).1 (o.g y).2 := by
  intro f xs ins o h
  unfold pcx_b18 at h
  split at h
  · exact good_b16 fu xs ins o h
  · exact good_b17 fu xs ins o h
  · cases h
theorem goodv_b18 (fu : Nat) (a_0_0 : Int) (a_0_1 : Int) (a_0_2 : Int) (a_0_3 : Int) (a_0_4 : Nat) (a_0_5 : Int) (a_0_6 : Int) (a_0_7 : Nat) (a_0_8 : Nat) (a_0_9 : Nat) (k_1_10 : Int) (rn0 : Nat) (rf0 : (Nat → S_impl_Entry)) (rn1 : Nat) (rf1 : (Nat → Int)) (rn2 : Nat) (rf2 : (Nat → Int)) (rn3 : Nat) (rf3 : (Nat → Int)) (y : Int × (Nat × (Nat → S_impl_Entry)) × (Nat × (Nat → Int)) × (Nat × (Nat → Int)) × (Nat × (Nat → Int))) (hy : F_laws_markNode_L fu a_0_0 a_0_1 a_0_2 a_0_3 a_0_4 a_0_5 a_0_6 a_0_7 a_0_8 a_0_9 k_1_10 rn0 rf0 rn1 rf1 rn2 rf2 rn3 rf3 = some y) : GoodX E Try.prog 12 [(.agg [(.int .i64 a_0_0), (.int .i64 a_0_1), (.int .i64 a_0_2), (.int .i64 a_0_3), (.os 0 a_0_4), (.int .i64 a_0_5), (.int .i64 a_0_6), (.os 1 a_0_7), (.os 2 a_0_8), (.os 3 a_0_9)]), (.int .i64 k_1_10)] [(.row true .impl_Entry rn0 rf0), (.row true .i64 rn1 rf1), (.row true .i64 rn2 rf2), (.row true .i64 rn3 rf3)] (enc_b18 y).1 (enc_b18 y).2 :=
  funX_good (ke := false) E_ok (pc_good (pc := pc_b18 fu) hpc0 (hpx_b18 fu)) (fn := Try.f12) (c := body_b18) (out := out_b18) (y := y) (by kernel_rfl) (by kernel_rfl) (by kernel_rfl) (lpok_b18 fu) (by kernel_rfl) (Nat.le_refl _) (fun d os hd => out_b18_enc d os _ hd) ((ev_b18 fu a_0_0 a_0_1 a_0_2 a_0_3 a_0_4 a_0_5 a_0_6 a_0_7 a_0_8 a_0_9 k_1_10 rn0 rf0 rn1 rf1 rn2 rf2 rn3 rf3).trans hy)
theorem good_b18 (fu : Nat) : ∀ xs ins o, S_b18 fu xs ins = some o → ∀ y, o.x = some y → GoodX E Try.prog 12 xs ins (o.g y).1 (o.g y).2 := by
  intro xs ins o h y hy
  unfold S_b18 at h
  split at h
  · rename_i a0_0 a0_1 a0_2 a0_3 a0_4 a0_5 a0_6 a0_7 a0_8 a0_9 a1_0 rn0 rf0 rn1 rf1 rn2 rf2 rn3 rf3
    cases h
    exact goodv_b18 fu a0_0 a0_1 a0_2 a0_3 a0_4 a0_5 a0_6 a0_7 a0_8 a0_9 a1_0 rn0 rf0 rn1 rf1 rn2 rf2 rn3 rf3 y hy
  · cases h

/-! laws.markEntryS -/
def F_laws_markEntryS_U_B0 {ρ : Type} (fu : Nat) (a0_0 : Nat) (on0_3 : Nat) (k0 : Int → (Nat → S_impl_Entry) → Option ρ) (k1_1 : Int) (i5_2 : Int) (of0_4 : (Nat → S_impl_Entry)) (go : Int → Int → (Nat → S_impl_Entry) → Option ρ) : Option ρ :=
  (bif (decide (i5_2 < ((a0_0 : Nat) : Int))) then ((bif (decide (0 ≤ i5_2) && decide ((Int.toNat i5_2) < a0_0)) then some () else none : Option Unit).bind fun _ => ((bif (decide (0 ≤ i5_2) &&
    decide ((Int.toNat i5_2) < a0_0)) then some () else none : Option Unit).bind fun _ => ((bif (decide (0 ≤ i5_2) && decide ((Int.toNat i5_2) < a0_0)) then some () else none : Option Unit).bind fun _ =>
    ((bif (decide (0 ≤ i5_2) && decide ((Int.toNat i5_2) < a0_0)) then some () else none : Option Unit).bind fun _ => ((bif (decide (0 ≤ i5_2) && decide ((Int.toNat i5_2) < a0_0)) then
    some () else none : Option Unit).bind fun _ => ((bif (decide (0 ≤ i5_2) && decide ((Int.toNat i5_2) < a0_0)) then some () else none : Option Unit).bind fun _ => ((bif (decide (0 ≤ i5_2) &&
    decide ((Int.toNat i5_2) < a0_0)) then some () else none : Option Unit).bind fun _ => ((bif (decide (0 ≤ i5_2) && decide ((Int.toNat i5_2) < a0_0)) then some () else none : Option Unit).bind fun _ =>
    ((bif (decide (0 ≤ i5_2) && decide ((Int.toNat i5_2) < a0_0)) then some () else none : Option Unit).bind fun _ => (go (IntKind.wrap .i64 ((IntKind.wrap .i64 ((IntKind.wrap .i64 ((IntKind.wrap .i64 ((IntKind.wrap .i64 ((IntKind.wrap .i64 ((IntKind.wrap .i64 ((IntKind.wrap .i64 ((IntKind.wrap .i64 (k1_1 + 1)) + 1)) + 1)) + 1)) + 1)) + 1)) + 1)) + 1)) + 1)) (IntKind.wrap .i64 (i5_2 + 1)) (upd_impl_Entry_8_1 (upd_impl_Entry_7_1 (upd_impl_Entry_6_1 (upd_impl_Entry_5_1 (upd_impl_Entry_4_1 (upd_impl_Entry_3_1 (upd_impl_Entry_2_1 (upd_impl_Entry_1_1 (upd_impl_Entry_0_1 of0_4 (Int.toNat i5_2) k1_1) (Int.toNat i5_2) (IntKind.wrap .i64 (k1_1 + 1))) (Int.toNat i5_2) (IntKind.wrap .i64 ((IntKind.wrap .i64 (k1_1 + 1)) + 1))) (Int.toNat i5_2) (IntKind.wrap .i64 ((IntKind.wrap .i64 ((IntKind.wrap .i64 (k1_1 + 1)) + 1)) + 1))) (Int.toNat i5_2) (IntKind.wrap .i64 ((IntKind.wrap .i64 ((IntKind.wrap .i64 ((IntKind.wrap .i64 (k1_1 + 1)) + 1)) + 1)) + 1))) (Int.toNat i5_2) (IntKind.wrap .i64 ((IntKind.wrap .i64 ((IntKind.wrap .i64 ((IntKind.wrap .i64 ((IntKind.wrap .i64 (k1_1 + 1)) + 1)) + 1)) + 1)) + 1))) (Int.toNat i5_2) (IntKind.wrap .i64 ((IntKind.wrap .i64 ((IntKind.wrap .i64 ((IntKind.wrap .i64 ((IntKind.wrap .i64 ((IntKind.wrap .i64 (k1_1 + 1)) + 1)) + 1)) + 1)) + 1)) + 1))) (Int.toNat i5_2) (IntKind.wrap .i64 ((IntKind.wrap .i64 ((IntKind.wrap .i64 ((IntKind.wrap .i64 ((IntKind.wrap .i64 ((IntKind.wrap .i64 ((IntKind.wrap .i64 (k1_1 + 1)) + 1)) + 1)) + 1)) + 1)) + 1)) + 1))) (Int.toNat i5_2) (IntKind.wrap .i64 ((IntKind.wrap .i64 ((IntKind.wrap .i64 ((IntKind.wrap .i64 ((IntKind.wrap .i64 ((IntKind.wrap .i64 ((IntKind.wrap .i64 ((IntKind.wrap .i64 (k1_1 + 1)) + 1)) + 1)) + 1)) + 1)) + 1)) + 1)) + 1))))))))))))) else
    (k0 k1_1 of0_4))
def F_laws_markEntryS_U (fu : Nat) (a_0_0 : Nat) (k_1 : Int) (rn0 : Nat) (rf0 : (Nat → S_impl_Entry)) : Option (Int × Nat × (Nat → S_impl_Entry)) :=
  (L (fun w0 go0 => F_laws_markEntryS_U_B0 fu a_0_0 rn0 (fun z384 z385 => (some (z384, rn0, z385))) w0.1 w0.2.1 w0.2.2 (fun q0 q1 q2 => go0 (q0, q1, q2))) fu ((k_1, 0, rf0) : Int × Int × (Nat → S_impl_Entry)))
def pc_b19 (fu : Nat) : Pc RT den := ⟨pcf0, fun _ => false, fun _ => false, pcd0, pcd0, pcx0⟩
def msk_b19 (b : Nat) : List Nat := match b with | 0 => (2 :: 3 :: 4 :: (rg 6 76 [])) | 100000 => (0 :: 2 :: 3 :: (rg 5 77 [])) | _ => []
def ps_b19_0 : List (Pat RT) := (.flat (.os 0) :: .flat (.int .i64) :: .flat .q :: .flat .q :: .flat .q :: .flat (.int .i64) :: (fq 76 []))
def os_b19_0 : List (OP RT) := [.row true .impl_Entry]
def conv_b19_0 (r : Raw den ps_b19_0 os_b19_0) : (Nat × Nat) × (Int × Int × (Nat → S_impl_Entry)) := ((r.1.1, r.2.1.1), (r.1.2.1, (e5 r.1).1, r.2.1.2))
def back_b19_0 (c : Nat × Nat) (w : Int × Int × (Nat → S_impl_Entry)) : St RT den := ⟨((.os 0 c.1) :: (.int .i64 w.1) :: .q :: .q :: .q :: (.int .i64 w.2.1) :: (qs 76 [])), [(.row true .impl_Entry c.2 w.2.2)]⟩
def Bk_b19_0 {ρ : Type} (fu : Nat) (c : Nat × Nat) (k : Ex → St RT den → Option ρ) (w : Int × Int × (Nat → S_impl_Entry)) (go : (Int × Int × (Nat → S_impl_Entry)) → Option ρ) : Option ρ := F_laws_markEntryS_U_B0 fu c.1 c.2 (fun a0 a1 => k (.exit 0) ⟨(.q :: (.int .i64 a0) :: (qs 80 [])), [(.row true .impl_Entry c.2 a1)]⟩) w.1 w.2.1 w.2.2 (fun q0 q1 q2 => go (q0, q1, q2))
def lp_b19 (fu : Nat) : Lp RT den (Int × Nat × (Nat → S_impl_Entry)) := ⟨fun b s k => match b with | 0 => handle ps_b19_0 os_b19_0 conv_b19_0 (Bk_b19_0 fu) fu s k | _ => none, inl0⟩
def pso_b19 : List (Pat RT) := [.flat (.int .i64)]
def oso_b19 : List (OP RT) := [.row true .impl_Entry]
def conv_b19 (r : Raw den pso_b19 oso_b19) : Int × Nat × (Nat → S_impl_Entry) := (r.1.1, r.2.1.1, r.2.1.2)
def enc_b19 (y : Int × Nat × (Nat → S_impl_Entry)) : D RT den × List (Ob RT den) := ((.int .i64 y.1), [(.row true .impl_Entry y.2.1 y.2.2)])
def out_b19 (d : D RT den) (os : List (Ob RT den)) : Option (Int × Nat × (Nat → S_impl_Entry)) := (unSt pso_b19 oso_b19 ⟨[d], os⟩).bind fun v => some (conv_b19 v.1)
theorem out_b19_enc (d : D RT den) (os : List (Ob RT den)) (y : Int × Nat × (Nat → S_impl_Entry)) (h : out_b19 d os = some y) : d = (enc_b19 y).1 ∧ os = (enc_b19 y).2 :=
  outM (conv := conv_b19) (enc := enc_b19) (fun raw => by kernel_rfl) h
theorem ev_b19 (fu : Nat) (a_0_0 : Nat) (k_1 : Int) (rn0 : Nat) (rf0 : (Nat → S_impl_Entry)) : evFunU E (pc_b19 fu) msk_b19 (lp_b19 fu) out_b19 41 [(.os 0 a_0_0), (.int .i64 k_1)] [(.row true .impl_Entry rn0 rf0)] = F_laws_markEntryS_U fu a_0_0 k_1 rn0 rf0 := by kernel_rfl
noncomputable def body_b19 : Code := Try.f41.body.getD .skip
noncomputable def lc_b19_0 : Code := ((loops 0 body_b19).getD 0 (0, .skip)).2
theorem round_b19_0 (fu : Nat) (it : St RT den → Option (Int × Nat × (Nat → S_impl_Entry))) (k : Ex → St RT den → Option (Int × Nat × (Nat → S_impl_Entry))) c w : evCode E (pc_b19 fu) msk_b19 (lp_b19 fu) 0 lc_b19_0 (back_b19_0 c w) (after (msk_b19 0) (msk_b19 100000) 1 it k) = Bk_b19_0 fu c k w (fun w => it (back_b19_0 c w)) := by kernel_rfl
theorem lpok_b19_0 (fu : Nat) : ∀ s k r, (lp_b19 fu).lp 0 s k = some r → ∃ fuel, iter (msk_b19 0) (msk_b19 100000) s.objs.length (evCode E (pc_b19 fu) msk_b19 (lp_b19 fu) 0 lc_b19_0) fuel s k = some r :=
  handle_ok (ps := ps_b19_0) (os := os_b19_0) (conv := conv_b19_0) (B := Bk_b19_0 fu) (fu := fu) back_b19_0 (fun raw => by kernel_rfl) 1 (fun c w => by kernel_rfl) (round_b19_0 fu)
theorem lpok_b19 (fu : Nat) : LpOk E (pc_b19 fu) 0 msk_b19 (lp_b19 fu) (loops 0 body_b19) := lp_nil (loop_all 1 (by kernel_rfl) fun i hi => match i, hi with
  | 0, _ => by
    have h : (loops 0 body_b19).getD 0 (0, .skip) = (0, lc_b19_0) := by kernel_rfl
    rw [h]; exact lpok_b19_0 fu
  | i + 1, hi => absurd hi (by omega)) (by kernel_rfl)
def S_b19 (fu : Nat) (xs : List (D RT den)) (ins : List (Ob RT den)) : Option (OutX RT den) := match xs, ins with | [.os 0 a0_0, .int .i64 a1_0], [.row true .impl_Entry rn0 rf0] => some ⟨Int × Nat × (Nat → S_impl_Entry), F_laws_markEntryS_U fu a0_0 a1_0 rn0 rf0, enc_b19⟩ | _, _ => none
theorem goodv_b19 (fu : Nat) (a_0_0 : Nat) (k_1 : Int) (rn0 : Nat) (rf0 : (Nat → S_impl_Entry)) (y : Int × Nat × (Nat → S_impl_Entry)) (hy : F_laws_markEntryS_U fu a_0_0 k_1 rn0 rf0 = some y) : GoodD E Try.prog 41 [(.os 0 a_0_0), (.int .i64 k_1)] [(.row true .impl_Entry rn0 rf0)] (enc_b19 y).1 (enc_b19 y).2 :=
  funU_good E_ok (pc_good (pc := pc_b19 fu) hpc0 hpx0) (fn := Try.f41) (c := body_b19) (out := out_b19) (y := y) (by kernel_rfl) (by kernel_rfl) (by kernel_rfl) (lpok_b19 fu) (by kernel_rfl) (Nat.le_of_ble_eq_true (by kernel_rfl)) (Fulls.get 1 trivial) (fun d os hd => out_b19_enc d os _ hd) ((ev_b19 fu a_0_0 k_1 rn0 rf0).trans hy)
theorem good_b19 (fu : Nat) : ∀ xs ins o, S_b19 fu xs ins = some o → ∀ y, o.x = some y → GoodD E Try.prog 41 xs ins (o.g y).1 (o.g y).2 := by
  intro xs ins o h y hy
  unfold S_b19 at h
  split at h
  · rename_i a0_0 a1_0 rn0 rf0
    cases h
    exact goodv_b19 fu a0_0 a1_0 rn0 rf0 y hy
  · cases h

/-! laws.markInt64S -/
def F_laws_markInt64S_U_B0 {ρ : Type} (fu : Nat) (a0_0 : Nat) (on0_3 : Nat) (k0 : Int → (Nat → Int) → Option ρ) (k1_1 : Int) (i5_2 : Int) (of0_4 : (Nat → Int)) (go : Int → Int → (Nat → Int) → Option ρ) : Option ρ :=
  (bif (decide (i5_2 < ((a0_0 : Nat) : Int))) then ((bif (decide (0 ≤ i5_2) && decide ((Int.toNat i5_2) < a0_0)) then some () else none : Option Unit).bind fun _ => (go (IntKind.wrap .i64 (k1_1 + 1)) (IntKind.wrap .i64 (i5_2 + 1)) (fun j =>
    if j = (Int.toNat i5_2) then k1_1 else of0_4 j))) else (k0 k1_1 of0_4))
def F_laws_markInt64S_U (fu : Nat) (a_0_0 : Nat) (k_1 : Int) (rn0 : Nat) (rf0 : (Nat → Int)) : Option (Int × Nat × (Nat → Int)) :=
  (L (fun w0 go0 => F_laws_markInt64S_U_B0 fu a_0_0 rn0 (fun z387 z388 => (some (z387, rn0, z388))) w0.1 w0.2.1 w0.2.2 (fun q0 q1 q2 => go0 (q0, q1, q2))) fu ((k_1, 0, rf0) : Int × Int × (Nat → Int)))
def pc_b20 (fu : Nat) : Pc RT den := ⟨pcf0, fun _ => false, fun _ => false, pcd0, pcd0, pcx0⟩
def msk_b20 (b : Nat) : List Nat := match b with | 0 => (2 :: 3 :: 4 :: (rg 6 13 [])) | 100000 => (0 :: 2 :: 3 :: (rg 5 14 [])) | _ => []
def ps_b20_0 : List (Pat RT) := (.flat (.os 0) :: .flat (.int .i64) :: .flat .q :: .flat .q :: .flat .q :: .flat (.int .i64) :: (fq 13 []))
def os_b20_0 : List (OP RT) := [.row true .i64]
def conv_b20_0 (r : Raw den ps_b20_0 os_b20_0) : (Nat × Nat) × (Int × Int × (Nat → Int)) := ((r.1.1, r.2.1.1), (r.1.2.1, (e5 r.1).1, r.2.1.2))
def back_b20_0 (c : Nat × Nat) (w : Int × Int × (Nat → Int)) : St RT den := ⟨((.os 0 c.1) :: (.int .i64 w.1) :: .q :: .q :: .q :: (.int .i64 w.2.1) :: (qs 13 [])), [(.row true .i64 c.2 w.2.2)]⟩
def Bk_b20_0 {ρ : Type} (fu : Nat) (c : Nat × Nat) (k : Ex → St RT den → Option ρ) (w : Int × Int × (Nat → Int)) (go : (Int × Int × (Nat → Int)) → Option ρ) : Option ρ := F_laws_markInt64S_U_B0 fu c.1 c.2 (fun a0 a1 => k (.exit 0) ⟨(.q :: (.int .i64 a0) :: (qs 17 [])), [(.row true .i64 c.2 a1)]⟩) w.1 w.2.1 w.2.2 (fun q0 q1 q2 => go (q0, q1, q2))
def lp_b20 (fu : Nat) : Lp RT den (Int × Nat × (Nat → Int)) := ⟨fun b s k => match b with | 0 => handle ps_b20_0 os_b20_0 conv_b20_0 (Bk_b20_0 fu) fu s k | _ => none, inl0⟩
def pso_b20 : List (Pat RT) := [.flat (.int .i64)]
def oso_b20 : List (OP RT) := [.row true .i64]
def conv_b20 (r : Raw den pso_b20 oso_b20) : Int × Nat × (Nat → Int) := (r.1.1, r.2.1.1, r.2.1.2)
def enc_b20 (y : Int × Nat × (Nat → Int)) : D RT den × List (Ob RT den) := ((.int .i64 y.1), [(.row true .i64 y.2.1 y.2.2)])
def out_b20 (d : D RT den) (os : List (Ob RT den)) : Option (Int × Nat × (Nat → Int)) := (unSt pso_b20 oso_b20 ⟨[d], os⟩).bind fun v => some (conv_b20 v.1)
theorem out_b20_enc (d : D RT den) (os : List (Ob RT den)) (y : Int × Nat × (Nat → Int)) (h : out_b20 d os = some y) : d = (enc_b20 y).1 ∧ os = (enc_b20 y).2 :=
  outM (conv := conv_b20) (enc := enc_b20) (fun raw => by kernel_rfl) h
theorem ev_b20 (fu : Nat) (a_0_0 : Nat) (k_1 : Int) (rn0 : Nat) (rf0 : (Nat → Int)) : evFunU E (pc_b20 fu) msk_b20 (lp_b20 fu) out_b20 42 [(.os 0 a_0_0), (.int .i64 k_1)] [(.row true .i64 rn0 rf0)] = F_laws_markInt64S_U fu a_0_0 k_1 rn0 rf0 := by kernel_rfl
noncomputable def body_b20 : Code := Try.f42.body.getD .skip
noncomputable def lc_b20_0 : Code := ((loops 0 body_b20).getD 0 (0, .skip)).2
theorem round_b20_0 (fu : Nat) (it : St RT den → Option (Int × Nat × (Nat → Int))) (k : Ex → St RT den → Option (Int × Nat × (Nat → Int))) c w : evCode E (pc_b20 fu) msk_b20 (lp_b20 fu) 0 lc_b20_0 (back_b20_0 c w) (after (msk_b20 0) (msk_b20 100000) 1 it k) = Bk_b20_0 fu c k w (fun w => it (back_b20_0 c w)) := by kernel_rfl
theorem lpok_b20_0 (fu : Nat) : ∀ s k r, (lp_b20 fu).lp 0 s k = some r → ∃ fuel, iter (msk_b20 0) (msk_b20 100000) s.objs.length (evCode E (pc_b20 fu) msk_b20 (lp_b20 fu) 0 lc_b20_0) fuel s k = some r :=
  handle_ok (ps := ps_b20_0) (os := os_b20_0) (conv := conv_b20_0) (B := Bk_b20_0 fu) (fu := fu) back_b20_0 (fun raw => by kernel_rfl) 1 (fun c w => by kernel_rfl) (round_b20_0 fu)
theorem lpok_b20 (fu : Nat) : LpOk E (pc_b20 fu) 0 msk_b20 (lp_b20 fu) (loops 0 body_b20) := lp_nil (loop_all 1 (by kernel_rfl) fun i hi => match i, hi with
  | 0, _ => by
    have h : (loops 0 body_b20).getD 0 (0, .skip) = (0, lc_b20_0) := by kernel_rfl
    rw [h]; exact lpok_b20_0 fu
  | i + 1, hi => absurd hi (by omega)) (by kernel_rfl)
def S_b20 (fu : Nat) (xs : List (D RT den)) (ins : List (Ob RT den)) : Option (OutX RT den) := match xs, ins with | [.os 0 a0_0, .int .i64 a1_0], [.row true .i64 rn0 rf0] => some ⟨Int × Nat × (Nat → Int), F_laws_markInt64S_U fu a0_0 a1_0 rn0 rf0, enc_b20⟩ | _, _ => none
theorem goodv_b20 (fu : Nat) (a_0_0 : Nat) (k_1 : Int) (rn0 : Nat) (rf0 : (Nat → Int)) (y : Int × Nat × (Nat → Int)) (hy : F_laws_markInt64S_U fu a_0_0 k_1 rn0 rf0 = some y) : GoodD E Try.prog 42 [(.os 0 a_0_0), (.int .i64 k_1)] [(.row true .i64 rn0 rf0)] (enc_b20 y).1 (enc_b20 y).2 :=
  funU_good E_ok (pc_good (pc := pc_b20 fu) hpc0 hpx0) (fn := Try.f42) (c := body_b20) (out := out_b20) (y := y) (by kernel_rfl) (by kernel_rfl) (by kernel_rfl) (lpok_b20 fu) (by kernel_rfl) (Nat.le_of_ble_eq_true (by kernel_rfl)) (Fulls.get 1 trivial) (fun d os hd => out_b20_enc d os _ hd) ((ev_b20 fu a_0_0 k_1 rn0 rf0).trans hy)
theorem good_b20 (fu : Nat) : ∀ xs ins o, S_b20 fu xs ins = some o → ∀ y, o.x = some y → GoodD E Try.prog 42 xs ins (o.g y).1 (o.g y).2 := by
  intro xs ins o h y hy
  unfold S_b20 at h
  split at h
  · rename_i a0_0 a1_0 rn0 rf0
    cases h
    exact goodv_b20 fu a0_0 a1_0 rn0 rf0 y hy
  · cases h

/-! laws.markNode -/
def F_laws_markNode_U (fu : Nat) (a_0_0 : Int) (a_0_1 : Int) (a_0_2 : Int) (a_0_3 : Int) (a_0_4 : Nat) (a_0_5 : Int) (a_0_6 : Int) (a_0_7 : Nat) (a_0_8 : Nat) (a_0_9 : Nat) (k_1 : Int) (rn0 : Nat) (rf0 : (Nat → S_impl_Entry)) (rn1 : Nat) (rf1 : (Nat → Int)) (rn2 : Nat) (rf2 : (Nat → Int)) (rn3 : Nat) (rf3 : (Nat → Int)) : Option (Yf0) :=
  ((F_laws_markEntryS_U fu a_0_4 k_1 rn0 rf0).bind fun y386 => ((F_laws_markInt64S_U fu a_0_7 y386.1 rn1 rf1).bind fun y389 => ((F_laws_markInt64S_U fu a_0_8 y389.1 rn2 rf2).bind fun y390 =>
    ((F_laws_markInt64S_U fu a_0_9 y390.1 rn3 rf3).bind fun y391 => (some (y391.1, y386.2.1, y386.2.2, y389.2.1, y389.2.2, y390.2.1, y390.2.2, y391.2.1, y391.2.2))))))
def pcx_b21 (fu : Nat) (f : Nat) (xs : List (D RT den)) (ins : List (Ob RT den)) : Option (OutX RT den) := match f with | 41 => S_b19 fu xs ins | 42 => S_b20 fu xs ins | _ => none
def pcd_b21 : Nat → Bool := fun f => match f with | 41 => true | 42 => true | _ => false
def pc_b21 (fu : Nat) : Pc RT den := ⟨pcf0, fun f => match f with | 41 => true | 42 => true | _ => false, fun f => match f with | 41 => true | 42 => true | _ => false, pcd_b21, pcd0, pcx_b21 fu⟩
def msk_b21 (b : Nat) : List Nat := []
def lp_b21 (fu : Nat) : Lp RT den (Yf0) := ⟨fun b s k => none, inl0⟩
def pso_b21 : List (Pat RT) := [.flat (.int .i64)]
def oso_b21 : List (OP RT) := [.row true .impl_Entry, .row true .i64, .row true .i64, .row true .i64]
def conv_b21 (r : Raw den pso_b21 oso_b21) : Yf0 := (r.1.1, r.2.1.1, r.2.1.2, r.2.2.1.1, r.2.2.1.2, r.2.2.2.1.1, r.2.2.2.1.2, r.2.2.2.2.1.1, r.2.2.2.2.1.2)
def enc_b21 (y : Yf0) : D RT den × List (Ob RT den) := ((.int .i64 y.1), [(.row true .impl_Entry y.2.1 y.2.2.1), (.row true .i64 y.2.2.2.1 y.2.2.2.2.1), (.row true .i64 y.2.2.2.2.2.1 y.2.2.2.2.2.2.1), (.row true .i64 y.2.2.2.2.2.2.2.1 y.2.2.2.2.2.2.2.2)])
def out_b21 (d : D RT den) (os : List (Ob RT den)) : Option (Yf0) := (unSt pso_b21 oso_b21 ⟨[d], os⟩).bind fun v => some (conv_b21 v.1)
theorem out_b21_enc (d : D RT den) (os : List (Ob RT den)) (y : Yf0) (h : out_b21 d os = some y) : d = (enc_b21 y).1 ∧ os = (enc_b21 y).2 :=
  outM (conv := conv_b21) (enc := enc_b21) (fun raw => by kernel_rfl) h
theorem ev_b21 (fu : Nat) (a_0_0 : Int) (a_0_1 : Int) (a_0_2 : Int) (a_0_3 : Int) (a_0_4 : Nat) (a_0_5 : Int) (a_0_6 : Int) (a_0_7 : Nat) (a_0_8 : Nat) (a_0_9 : Nat) (k_1 : Int) (rn0 : Nat) (rf0 : (Nat → S_impl_Entry)) (rn1 : Nat) (rf1 : (Nat → Int)) (rn2 : Nat) (rf2 : (Nat → Int)) (rn3 : Nat) (rf3 : (Nat → Int)) : evFunU E (pc_b21 fu) msk_b21 (lp_b21 fu) out_b21 12 [(.agg [(.int .i64 a_0_0), (.int .i64 a_0_1), (.int .i64 a_0_2), (.int .i64 a_0_3), (.os 0 a_0_4), (.int .i64 a_0_5), (.int .i64 a_0_6), (.os 1 a_0_7), (.os 2 a_0_8), (.os 3 a_0_9)]), (.int .i64 k_1)] [(.row true .impl_Entry rn0 rf0), (.row true .i64 rn1 rf1), (.row true .i64 rn2 rf2), (.row true .i64 rn3 rf3)] = F_laws_markNode_U fu a_0_0 a_0_1 a_0_2 a_0_3 a_0_4 a_0_5 a_0_6 a_0_7 a_0_8 a_0_9 k_1 rn0 rf0 rn1 rf1 rn2 rf2 rn3 rf3 := by kernel_rfl
noncomputable def body_b21 : Code := Try.f12.body.getD .skip
theorem lpok_b21 (fu : Nat) : LpOk E (pc_b21 fu) 0 msk_b21 (lp_b21 fu) (loops 0 body_b21) := lp_nil (loop_nil (by kernel_rfl)) (by kernel_rfl)
def S_b21 (fu : Nat) (xs : List (D RT den)) (ins : List (Ob RT den)) : Option (OutX RT den) := match xs, ins with | [.agg [.int .i64 a0_0, .int .i64 a0_1, .int .i64 a0_2, .int .i64 a0_3, .os 0 a0_4, .int .i64 a0_5, .int .i64 a0_6, .os 1 a0_7, .os 2 a0_8, .os 3 a0_9], .int .i64 a1_0], [.row true .impl_Entry rn0 rf0, .row true .i64 rn1 rf1, .row true .i64 rn2 rf2, .row true .i64 rn3 rf3] => some ⟨Yf0, F_laws_markNode_U fu a0_0 a0_1 a0_2 a0_3 a0_4 a0_5 a0_6 a0_7 a0_8 a0_9 a1_0 rn0 rf0 rn1 rf1 rn2 rf2 rn3 rf3, enc_b21⟩ | _, _ => none
theorem hpx_b21 (fu : Nat) : ∀ f xs ins o, pcx_b21 fu f xs ins = some o → ∀ y, o.x = some y → GoodXD E Try.prog (pcd_b21 f) f xs ins (o.g y).1 (o.g y).2 := by
  intro f xs ins o h
  unfold pcx_b21 at h
  split at h
  · exact good_b19 fu xs ins o h
  · exact good_b20 fu xs ins o h
  · cases h
theorem goodv_b21 (fu : Nat) (a_0_0 : Int) (a_0_1 : Int) (a_0_2 : Int) (a_0_3 : Int) (a_0_4 : Nat) (a_0_5 : Int) (a_0_6 : Int) (a_0_7 : Nat) (a_0_8 : Nat) (a_0_9 : Nat) (k_1 : Int) (rn0 : Nat) (rf0 : (Nat → S_impl_Entry)) (rn1 : Nat) (rf1 : (Nat → Int)) (rn2 : Nat) (rf2 : (Nat → Int)) (rn3 : Nat) (rf3 : (Nat → Int)) (y : Yf0) (hy : F_laws_markNode_U fu a_0_0 a_0_1 a_0_2 a_0_3 a_0_4 a_0_5 a_0_6 a_0_7 a_0_8 a_0_9 k_1 rn0 rf0 rn1 rf1 rn2 rf2 rn3 rf3 = some y) : GoodD E Try.prog 12 [(.agg [(.int .i64 a_0_0), (.int .i64 a_0_1), (.int .i64 a_0_2), (.int .i64 a_0_3), (.os 0 a_0_4), (.int .i64 a_0_5), (.int .i64 a_0_6), (.os 1 a_0_7), (.os 2 a_0_8), (.os 3 a_0_9)]), (.int .i64 k_1)] [(.row true .impl_Entry rn0 rf0), (.row true .i64 rn1 rf1), (.row true .i64 rn2 rf2), (.row true .i64 rn3 rf3)] (enc_b21 y).1 (enc_b21 y).2 :=
  funU_good E_ok (pc_good (pc := pc_b21 fu) hpc0 (hpx_b21 fu)) (fn := Try.f12) (c := body_b21) (out := out_b21) (y := y) (by kernel_rfl) (by kernel_rfl) (by kernel_rfl) (lpok_b21 fu) (by kernel_rfl) (Nat.le_of_ble_eq_true (by kernel_rfl)) (Fulls.get 4 trivial) (fun d os hd => out_b21_enc d os _ hd) ((ev_b21 fu a_0_0 a_0_1 a_0_2 a_0_3 a_0_4 a_0_5 a_0_6 a_0_7 a_0_8 a_0_9 k_1 rn0 rf0 rn1 rf1 rn2 rf2 rn3 rf3).trans hy)
theorem good_b21 (fu : Nat) : ∀ xs ins o, S_b21 fu xs ins = some o → ∀ y, o.x = some y → GoodD E Try.prog 12 xs ins (o.g y).1 (o.g y).2 := by
  intro xs ins o h y hy
  unfold S_b21 at h
  split at h
  · rename_i a0_0 a0_1 a0_2 a0_3 a0_4 a0_5 a0_6 a0_7 a0_8 a0_9 a1_0 rn0 rf0 rn1 rf1 rn2 rf2 rn3 rf3
    cases h
    exact goodv_b21 fu a0_0 a0_1 a0_2 a0_3 a0_4 a0_5 a0_6 a0_7 a0_8 a0_9 a1_0 rn0 rf0 rn1 rf1 rn2 rf2 rn3 rf3 y hy
  · cases h

/-! laws.markMailS -/
def F_laws_markMailS_U_B0 {ρ : Type} (fu : Nat) (a0_0 : Nat) (on0_3 : Nat) (op0_4 : Nat) (k0 : Int → (Nat → S_impl_Mail) → Option ρ) (k1_1 : Int) (i5_2 : Int) (of0_5 : (Nat → S_impl_Mail)) (go : Int → Int → (Nat → S_impl_Mail) → Option ρ) : Option ρ :=
  (bif (decide (i5_2 < ((a0_0 : Nat) : Int))) then ((bif (decide (0 ≤ i5_2) && decide ((Int.toNat i5_2) < a0_0)) then some () else none : Option Unit).bind fun _ => ((bif (decide (0 ≤ i5_2) &&
    decide ((Int.toNat i5_2) < a0_0)) then some () else none : Option Unit).bind fun _ => ((bif (decide (0 ≤ i5_2) && decide ((Int.toNat i5_2) < a0_0)) then some () else none : Option Unit).bind fun _ =>
    ((bif (decide (0 ≤ i5_2) && decide ((Int.toNat i5_2) < a0_0)) then some () else none : Option Unit).bind fun _ => ((bif (decide (0 ≤ i5_2) && decide ((Int.toNat i5_2) < a0_0)) then
    some () else none : Option Unit).bind fun _ => ((bif (decide (0 ≤ i5_2) && decide ((Int.toNat i5_2) < a0_0)) then some () else none : Option Unit).bind fun _ => ((bif (decide (0 ≤ i5_2) &&
    decide ((Int.toNat i5_2) < a0_0)) then some () else none : Option Unit).bind fun _ => ((bif (decide (0 ≤ i5_2) && decide ((Int.toNat i5_2) < a0_0)) then some () else none : Option Unit).bind fun _ =>
    ((bif (decide (0 ≤ i5_2) && decide ((Int.toNat i5_2) < a0_0)) then some () else none : Option Unit).bind fun _ => ((bif (decide ((Int.toNat i5_2) < op0_4)) then some () else
    none : Option Unit).bind fun _ => (bif (decide ((Int.toNat i5_2) < op0_4) && true) then ((F_laws_markEntryS_U fu (((upd_impl_Mail_7_1 (upd_impl_Mail_6_1 (upd_impl_Mail_5_1 (upd_impl_Mail_4_1 (upd_impl_Mail_3_1 (upd_impl_Mail_2_1 (upd_impl_Mail_1_1 (upd_impl_Mail_0_1 of0_5 (Int.toNat i5_2) k1_1) (Int.toNat i5_2) (IntKind.wrap .i64 (k1_1 + 1))) (Int.toNat i5_2) (IntKind.wrap .i64 ((IntKind.wrap .i64 (k1_1 + 1)) + 1))) (Int.toNat i5_2) (IntKind.wrap .i64 ((IntKind.wrap .i64 ((IntKind.wrap .i64 (k1_1 + 1)) + 1)) + 1))) (Int.toNat i5_2) (IntKind.wrap .i64 ((IntKind.wrap .i64 ((IntKind.wrap .i64 ((IntKind.wrap .i64 (k1_1 + 1)) + 1)) + 1)) + 1))) (Int.toNat i5_2) (IntKind.wrap .i64 ((IntKind.wrap .i64 ((IntKind.wrap .i64 ((IntKind.wrap .i64 ((IntKind.wrap .i64 (k1_1 + 1)) + 1)) + 1)) + 1)) + 1))) (Int.toNat i5_2) (IntKind.wrap .i64 ((IntKind.wrap .i64 ((IntKind.wrap .i64 ((IntKind.wrap .i64 ((IntKind.wrap .i64 ((IntKind.wrap .i64 (k1_1 + 1)) + 1)) + 1)) + 1)) + 1)) + 1))) (Int.toNat i5_2) ((Int.tmod (IntKind.wrap .i64 ((IntKind.wrap .i64 ((IntKind.wrap .i64 ((IntKind.wrap .i64 ((IntKind.wrap .i64 ((IntKind.wrap .i64 ((IntKind.wrap .i64 (k1_1 + 1)) + 1)) + 1)) + 1)) + 1)) + 1)) + 1)) 3) == 0)) (Int.toNat i5_2)).Entries.n) (IntKind.wrap .i64 ((IntKind.wrap .i64 ((IntKind.wrap .i64 ((IntKind.wrap .i64 ((IntKind.wrap .i64 ((IntKind.wrap .i64 ((IntKind.wrap .i64 ((IntKind.wrap .i64 (k1_1 + 1)) + 1)) + 1)) + 1)) + 1)) + 1)) + 1)) + 1)) (((upd_impl_Mail_7_1 (upd_impl_Mail_6_1 (upd_impl_Mail_5_1 (upd_impl_Mail_4_1 (upd_impl_Mail_3_1 (upd_impl_Mail_2_1 (upd_impl_Mail_1_1 (upd_impl_Mail_0_1 of0_5 (Int.toNat i5_2) k1_1) (Int.toNat i5_2) (IntKind.wrap .i64 (k1_1 + 1))) (Int.toNat i5_2) (IntKind.wrap .i64 ((IntKind.wrap .i64 (k1_1 + 1)) + 1))) (Int.toNat i5_2) (IntKind.wrap .i64 ((IntKind.wrap .i64 ((IntKind.wrap .i64 (k1_1 + 1)) + 1)) + 1))) (Int.toNat i5_2) (IntKind.wrap .i64 ((IntKind.wrap .i64 ((IntKind.wrap .i64 ((IntKind.wrap .i64 (k1_1 + 1)) + 1)) + 1)) + 1))) (Int.toNat i5_2) (IntKind.wrap .i64 ((IntKind.wrap .i64 ((IntKind.wrap .i64 ((IntKind.wrap .i64 ((IntKind.wrap .i64 (k1_1 + 1)) + 1)) + 1)) + 1)) + 1))) (Int.toNat i5_2) (IntKind.wrap .i64 ((IntKind.wrap .i64 ((IntKind.wrap .i64 ((IntKind.wrap .i64 ((IntKind.wrap .i64 ((IntKind.wrap .i64 (k1_1 + 1)) + 1)) + 1)) + 1)) + 1)) + 1))) (Int.toNat i5_2) ((Int.tmod (IntKind.wrap .i64 ((IntKind.wrap .i64 ((IntKind.wrap .i64 ((IntKind.wrap .i64 ((IntKind.wrap .i64 ((IntKind.wrap .i64 ((IntKind.wrap .i64 (k1_1 + 1)) + 1)) + 1)) + 1)) + 1)) + 1)) + 1)) 3) == 0)) (Int.toNat i5_2)).Entries.n) (((upd_impl_Mail_7_1 (upd_impl_Mail_6_1 (upd_impl_Mail_5_1 (upd_impl_Mail_4_1 (upd_impl_Mail_3_1 (upd_impl_Mail_2_1 (upd_impl_Mail_1_1 (upd_impl_Mail_0_1 of0_5 (Int.toNat i5_2) k1_1) (Int.toNat i5_2) (IntKind.wrap .i64 (k1_1 + 1))) (Int.toNat i5_2) (IntKind.wrap .i64 ((IntKind.wrap .i64 (k1_1 + 1)) + 1))) (Int.toNat i5_2) (IntKind.wrap .i64 ((IntKind.wrap .i64 ((IntKind.wrap .i64 (k1_1 + 1)) + 1)) + 1))) (Int.toNat i5_2) (IntKind.wrap .i64 ((IntKind.wrap .i64 ((IntKind.wrap .i64 ((IntKind.wrap .i64 (k1_1 + 1)) + 1)) + 1)) + 1))) (Int.toNat i5_2) (IntKind.wrap .i64 ((IntKind.wrap .i64 ((IntKind.wrap .i64 ((IntKind.wrap .i64 ((IntKind.wrap .i64 (k1_1 + 1)) + 1)) + 1)) + 1)) + 1))) (Int.toNat i5_2) (IntKind.wrap .i64 ((IntKind.wrap .i64 ((IntKind.wrap .i64 ((IntKind.wrap .i64 ((IntKind.wrap .i64 ((IntKind.wrap .i64 (k1_1 + 1)) + 1)) + 1)) + 1)) + 1)) + 1))) (Int.toNat i5_2) ((Int.tmod (IntKind.wrap .i64 ((IntKind.wrap .i64 ((IntKind.wrap .i64 ((IntKind.wrap .i64 ((IntKind.wrap .i64 ((IntKind.wrap .i64 ((IntKind.wrap .i64 (k1_1 + 1)) + 1)) + 1)) + 1)) + 1)) + 1)) + 1)) 3) == 0)) (Int.toNat i5_2)).Entries.f)).bind fun y393 =>
    (go y393.1 (IntKind.wrap .i64 (i5_2 + 1)) (upd_impl_Mail_8_1 (upd_impl_Mail_7_1 (upd_impl_Mail_6_1 (upd_impl_Mail_5_1 (upd_impl_Mail_4_1 (upd_impl_Mail_3_1 (upd_impl_Mail_2_1 (upd_impl_Mail_1_1 (upd_impl_Mail_0_1 of0_5 (Int.toNat i5_2) k1_1) (Int.toNat i5_2) (IntKind.wrap .i64 (k1_1 + 1))) (Int.toNat i5_2) (IntKind.wrap .i64 ((IntKind.wrap .i64 (k1_1 + 1)) + 1))) (Int.toNat i5_2) (IntKind.wrap .i64 ((IntKind.wrap .i64 ((IntKind.wrap .i64 (k1_1 + 1)) + 1)) + 1))) (Int.toNat i5_2) (IntKind.wrap .i64 ((IntKind.wrap .i64 ((IntKind.wrap .i64 ((IntKind.wrap .i64 (k1_1 + 1)) + 1)) + 1)) + 1))) (Int.toNat i5_2) (IntKind.wrap .i64 ((IntKind.wrap .i64 ((IntKind.wrap .i64 ((IntKind.wrap .i64 ((IntKind.wrap .i64 (k1_1 + 1)) + 1)) + 1)) + 1)) + 1))) (Int.toNat i5_2) (IntKind.wrap .i64 ((IntKind.wrap .i64 ((IntKind.wrap .i64 ((IntKind.wrap .i64 ((IntKind.wrap .i64 ((IntKind.wrap .i64 (k1_1 + 1)) + 1)) + 1)) + 1)) + 1)) + 1))) (Int.toNat i5_2) ((Int.tmod (IntKind.wrap .i64 ((IntKind.wrap .i64 ((IntKind.wrap .i64 ((IntKind.wrap .i64 ((IntKind.wrap .i64 ((IntKind.wrap .i64 ((IntKind.wrap .i64 (k1_1 + 1)) + 1)) + 1)) + 1)) + 1)) + 1)) + 1)) 3) == 0)) (Int.toNat i5_2) (⟨none,
    ((upd_impl_Mail_7_1 (upd_impl_Mail_6_1 (upd_impl_Mail_5_1 (upd_impl_Mail_4_1 (upd_impl_Mail_3_1 (upd_impl_Mail_2_1 (upd_impl_Mail_1_1 (upd_impl_Mail_0_1 of0_5 (Int.toNat i5_2) k1_1) (Int.toNat i5_2) (IntKind.wrap .i64 (k1_1 + 1))) (Int.toNat i5_2) (IntKind.wrap .i64 ((IntKind.wrap .i64 (k1_1 + 1)) + 1))) (Int.toNat i5_2) (IntKind.wrap .i64 ((IntKind.wrap .i64 ((IntKind.wrap .i64 (k1_1 + 1)) + 1)) + 1))) (Int.toNat i5_2) (IntKind.wrap .i64 ((IntKind.wrap .i64 ((IntKind.wrap .i64 ((IntKind.wrap .i64 (k1_1 + 1)) + 1)) + 1)) + 1))) (Int.toNat i5_2) (IntKind.wrap .i64 ((IntKind.wrap .i64 ((IntKind.wrap .i64 ((IntKind.wrap .i64 ((IntKind.wrap .i64 (k1_1 + 1)) + 1)) + 1)) + 1)) + 1))) (Int.toNat i5_2) (IntKind.wrap .i64 ((IntKind.wrap .i64 ((IntKind.wrap .i64 ((IntKind.wrap .i64 ((IntKind.wrap .i64 ((IntKind.wrap .i64 (k1_1 + 1)) + 1)) + 1)) + 1)) + 1)) + 1))) (Int.toNat i5_2) ((Int.tmod (IntKind.wrap .i64 ((IntKind.wrap .i64 ((IntKind.wrap .i64 ((IntKind.wrap .i64 ((IntKind.wrap .i64 ((IntKind.wrap .i64 ((IntKind.wrap .i64 (k1_1 + 1)) + 1)) + 1)) + 1)) + 1)) + 1)) + 1)) 3) == 0)) (Int.toNat i5_2)).Entries.n,
    y393.2.2⟩ : (Sl S_impl_Entry))))) else none))))))))))) else (k0 k1_1 of0_5))
def F_laws_markMailS_U (fu : Nat) (a_0_0 : Nat) (k_1 : Int) (dn0 : Nat) (dp0 : Nat) (df0 : (Nat → S_impl_Mail)) : Option (Int × Nat × Nat × (Nat → S_impl_Mail)) :=
  (L (fun w0 go0 => F_laws_markMailS_U_B0 fu a_0_0 dn0 dp0 (fun z394 z395 => (some (z394, dn0, dp0, z395))) w0.1 w0.2.1 w0.2.2 (fun q0 q1 q2 => go0 (q0, q1, q2))) fu ((k_1, 0, df0) : Int × Int × (Nat → S_impl_Mail)))
def pcx_b22 (fu : Nat) (f : Nat) (xs : List (D RT den)) (ins : List (Ob RT den)) : Option (OutX RT den) := match f with | 41 => S_b19 fu xs ins | _ => none
def pcd_b22 : Nat → Bool := fun f => match f with | 41 => true | _ => false
def pc_b22 (fu : Nat) : Pc RT den := ⟨pcf0, fun f => match f with | 41 => true | _ => false, fun f => match f with | 41 => true | _ => false, pcd_b22, pcd0, pcx_b22 fu⟩
def msk_b22 (b : Nat) : List Nat := match b with | 0 => (2 :: 3 :: 4 :: (rg 6 72 [])) | 100000 => (0 :: 2 :: 3 :: (rg 5 73 [])) | _ => []
def ps_b22_0 : List (Pat RT) := (.flat (.os 0) :: .flat (.int .i64) :: .flat .q :: .flat .q :: .flat .q :: .flat (.int .i64) :: (fq 72 []))
def os_b22_0 : List (OP RT) := [.deep true .impl_Mail]
def conv_b22_0 (r : Raw den ps_b22_0 os_b22_0) : (Nat × Nat × Nat) × (Int × Int × (Nat → S_impl_Mail)) := ((r.1.1, r.2.1.1, r.2.1.2.1), (r.1.2.1, (e5 r.1).1, r.2.1.2.2))
def back_b22_0 (c : Nat × Nat × Nat) (w : Int × Int × (Nat → S_impl_Mail)) : St RT den := ⟨((.os 0 c.1) :: (.int .i64 w.1) :: .q :: .q :: .q :: (.int .i64 w.2.1) :: (qs 72 [])), [(.deep true .impl_Mail c.2.1 c.2.2 w.2.2)]⟩
def Bk_b22_0 {ρ : Type} (fu : Nat) (c : Nat × Nat × Nat) (k : Ex → St RT den → Option ρ) (w : Int × Int × (Nat → S_impl_Mail)) (go : (Int × Int × (Nat → S_impl_Mail)) → Option ρ) : Option ρ := F_laws_markMailS_U_B0 fu c.1 c.2.1 c.2.2 (fun a0 a1 => k (.exit 0) ⟨(.q :: (.int .i64 a0) :: (qs 76 [])), [(.deep true .impl_Mail c.2.1 c.2.2 a1)]⟩) w.1 w.2.1 w.2.2 (fun q0 q1 q2 => go (q0, q1, q2))
def lp_b22 (fu : Nat) : Lp RT den (Int × Nat × Nat × (Nat → S_impl_Mail)) := ⟨fun b s k => match b with | 0 => handle ps_b22_0 os_b22_0 conv_b22_0 (Bk_b22_0 fu) fu s k | _ => none, inl0⟩
def pso_b22 : List (Pat RT) := [.flat (.int .i64)]
def oso_b22 : List (OP RT) := [.deep true .impl_Mail]
def conv_b22 (r : Raw den pso_b22 oso_b22) : Int × Nat × Nat × (Nat → S_impl_Mail) := (r.1.1, r.2.1.1, r.2.1.2.1, r.2.1.2.2)
def enc_b22 (y : Int × Nat × Nat × (Nat → S_impl_Mail)) : D RT den × List (Ob RT den) := ((.int .i64 y.1), [(.deep true .impl_Mail y.2.1 y.2.2.1 y.2.2.2)])
def out_b22 (d : D RT den) (os : List (Ob RT den)) : Option (Int × Nat × Nat × (Nat → S_impl_Mail)) := (unSt pso_b22 oso_b22 ⟨[d], os⟩).bind fun v => some (conv_b22 v.1)
theorem out_b22_enc (d : D RT den) (os : List (Ob RT den)) (y : Int × Nat × Nat × (Nat → S_impl_Mail)) (h : out_b22 d os = some y) : d = (enc_b22 y).1 ∧ os = (enc_b22 y).2 :=
  outM (conv := conv_b22) (enc := enc_b22) (fun raw => by kernel_rfl) h
theorem ev_b22 (fu : Nat) (a_0_0 : Nat) (k_1 : Int) (dn0 : Nat) (dp0 : Nat) (df0 : (Nat → S_impl_Mail)) : evFunU E (pc_b22 fu) msk_b22 (lp_b22 fu) out_b22 43 [(.os 0 a_0_0), (.int .i64 k_1)] [(.deep true .impl_Mail dn0 dp0 df0)] = F_laws_markMailS_U fu a_0_0 k_1 dn0 dp0 df0 := by kernel_rfl
noncomputable def body_b22 : Code := Try.f43.body.getD .skip
noncomputable def lc_b22_0 : Code := ((loops 0 body_b22).getD 0 (0, .skip)).2
theorem round_b22_0 (fu : Nat) (it : St RT den → Option (Int × Nat × Nat × (Nat → S_impl_Mail))) (k : Ex → St RT den → Option (Int × Nat × Nat × (Nat → S_impl_Mail))) c w : evCode E (pc_b22 fu) msk_b22 (lp_b22 fu) 0 lc_b22_0 (back_b22_0 c w) (after (msk_b22 0) (msk_b22 100000) 1 it k) = Bk_b22_0 fu c k w (fun w => it (back_b22_0 c w)) := by kernel_rfl
theorem lpok_b22_0 (fu : Nat) : ∀ s k r, (lp_b22 fu).lp 0 s k = some r → ∃ fuel, iter (msk_b22 0) (msk_b22 100000) s.objs.length (evCode E (pc_b22 fu) msk_b22 (lp_b22 fu) 0 lc_b22_0) fuel s k = some r :=
  handle_ok (ps := ps_b22_0) (os := os_b22_0) (conv := conv_b22_0) (B := Bk_b22_0 fu) (fu := fu) back_b22_0 (fun raw => by kernel_rfl) 1 (fun c w => by kernel_rfl) (round_b22_0 fu)
theorem lpok_b22 (fu : Nat) : LpOk E (pc_b22 fu) 0 msk_b22 (lp_b22 fu) (loops 0 body_b22) := lp_nil (loop_all 1 (by kernel_rfl) fun i hi => match i, hi with
  | 0, _ => by
    have h : (loops 0 body_b22).getD 0 (0, .skip) = (0, lc_b22_0) := by kernel_rfl
    rw [h]; exact lpok_b22_0 fu
  | i + 1, hi => absurd hi (by omega)) (by kernel_rfl)
def S_b22 (fu : Nat) (xs : List (D RT den)) (ins : List (Ob RT den)) : Option (OutX RT den) := match xs, ins with | [.os 0 a0_0, .int .i64 a1_0], [.deep true .impl_Mail dn0 dp0 df0] => some ⟨Int × Nat × Nat × (Nat → S_impl_Mail), F_laws_markMailS_U fu a0_0 a1_0 dn0 dp0 df0, enc_b22⟩ | _, _ => none
theorem hpx_b22 (fu : Nat) : ∀ f xs ins o, pcx_b22 fu f xs ins = some o → ∀ y, o.x = some y → GoodXD E Try.prog (pcd_b22 f) f xs ins (o.g y).1 (o.g y).2 := by
  intro f xs ins o h
  unfold pcx_b22 at h
  split at h
  · exact good_b19 fu xs ins o h
  · cases h
theorem goodv_b22 (fu : Nat) (a_0_0 : Nat) (k_1 : Int) (dn0 : Nat) (dp0 : Nat) (df0 : (Nat → S_impl_Mail)) (y : Int × Nat × Nat × (Nat → S_impl_Mail)) (hy : F_laws_markMailS_U fu a_0_0 k_1 dn0 dp0 df0 = some y) : GoodD E Try.prog 43 [(.os 0 a_0_0), (.int .i64 k_1)] [(.deep true .impl_Mail dn0 dp0 df0)] (enc_b22 y).1 (enc_b22 y).2 :=
  funU_good E_ok (pc_good (pc := pc_b22 fu) hpc0 (hpx_b22 fu)) (fn := Try.f43) (c := body_b22) (out := out_b22) (y := y) (by kernel_rfl) (by kernel_rfl) (by kernel_rfl) (lpok_b22 fu) (by kernel_rfl) (Nat.le_of_ble_eq_true (by kernel_rfl)) (Fulls.get 1 trivial) (fun d os hd => out_b22_enc d os _ hd) ((ev_b22 fu a_0_0 k_1 dn0 dp0 df0).trans hy)
theorem good_b22 (fu : Nat) : ∀ xs ins o, S_b22 fu xs ins = some o → ∀ y, o.x = some y → GoodD E Try.prog 43 xs ins (o.g y).1 (o.g y).2 := by
  intro xs ins o h y hy
  unfold S_b22 at h
  split at h
  · rename_i a0_0 a1_0 dn0 dp0 df0
    cases h
    exact goodv_b22 fu a0_0 a1_0 dn0 dp0 df0 y hy
  · cases h

/-! laws.markNodeResult -/
def F_laws_markNodeResult_U (fu : Nat) (a_0_0 : Int) (a_0_1 : Int) (a_0_2 : Int) (a_0_3 : Int) (a_0_4 : Int) (a_0_5 : Nat) (a_0_6 : Int) (a_0_7 : Int) (a_0_8 : Nat) (a_0_9 : Nat) (a_0_10 : Nat) (a_0_11 : Nat) (k_1 : Int) (rn0 : Nat) (rf0 : (Nat → S_impl_Entry)) (rn1 : Nat) (rf1 : (Nat → Int)) (rn2 : Nat) (rf2 : (Nat → Int)) (rn3 : Nat) (rf3 : (Nat → Int)) (dn4 : Nat) (dp4 : Nat) (df4 : (Nat → S_impl_Mail)) : Option (Yf1) :=
  ((F_laws_markNode_U fu a_0_1 a_0_2 a_0_3 a_0_4 a_0_5 a_0_6 a_0_7 a_0_8 a_0_9 a_0_10 k_1 rn0 rf0 rn1 rf1 rn2 rf2 rn3 rf3).bind fun y392 => ((F_laws_markMailS_U fu a_0_11 y392.1 dn4 dp4 df4).bind fun y396 =>
    (some (y396.1, y392.2.1, y392.2.2.1, y392.2.2.2.1, y392.2.2.2.2.1, y392.2.2.2.2.2.1, y392.2.2.2.2.2.2.1, y392.2.2.2.2.2.2.2.1, y392.2.2.2.2.2.2.2.2, y396.2.1, y396.2.2.1,
    y396.2.2.2))))
def pcx_b23 (fu : Nat) (f : Nat) (xs : List (D RT den)) (ins : List (Ob RT den)) : Option (OutX RT den) := match f with | 12 => S_b21 fu xs ins | 43 => S_b22 fu xs ins | _ => none
def pcd_b23 : Nat → Bool := fun f => match f with | 12 => true | 43 => true | _ => false
def pc_b23 (fu : Nat) : Pc RT den := ⟨pcf0, fun f => match f with | 12 => true | 43 => true | _ => false, fun f => match f with | 12 => true | 43 => true | _ => false, pcd_b23, pcd0, pcx_b23 fu⟩
def msk_b23 (b : Nat) : List Nat := []
def lp_b23 (fu : Nat) : Lp RT den (Yf1) := ⟨fun b s k => none, inl0⟩
def pso_b23 : List (Pat RT) := [.flat (.int .i64)]
def oso_b23 : List (OP RT) := [.row true .impl_Entry, .row true .i64, .row true .i64, .row true .i64, .deep true .impl_Mail]
def conv_b23 (r : Raw den pso_b23 oso_b23) : Yf1 := (r.1.1, r.2.1.1, r.2.1.2, r.2.2.1.1, r.2.2.1.2, r.2.2.2.1.1, r.2.2.2.1.2, r.2.2.2.2.1.1, r.2.2.2.2.1.2, (e5 r).1.1, (e5 r).1.2.1, (e5 r).1.2.2)
def enc_b23 (y : Yf1) : D RT den × List (Ob RT den) := ((.int .i64 y.1), [(.row true .impl_Entry y.2.1 y.2.2.1), (.row true .i64 y.2.2.2.1 y.2.2.2.2.1), (.row true .i64 y.2.2.2.2.2.1 y.2.2.2.2.2.2.1), (.row true .i64 y.2.2.2.2.2.2.2.1 y.2.2.2.2.2.2.2.2.1), (.deep true .impl_Mail y.2.2.2.2.2.2.2.2.2.1 y.2.2.2.2.2.2.2.2.2.2.1 y.2.2.2.2.2.2.2.2.2.2.2)])
def out_b23 (d : D RT den) (os : List (Ob RT den)) : Option (Yf1) := (unSt pso_b23 oso_b23 ⟨[d], os⟩).bind fun v => some (conv_b23 v.1)
theorem out_b23_enc (d : D RT den) (os : List (Ob RT den)) (y : Yf1) (h : out_b23 d os = some y) : d = (enc_b23 y).1 ∧ os = (enc_b23 y).2 :=
  outM (conv := conv_b23) (enc := enc_b23) (fun raw => by kernel_rfl) h
theorem ev_b23 (fu : Nat) (a_0_0 : Int) (a_0_1 : Int) (a_0_2 : Int) (a_0_3 : Int) (a_0_4 : Int) (a_0_5 : Nat) (a_0_6 : Int) (a_0_7 : Int) (a_0_8 : Nat) (a_0_9 : Nat) (a_0_10 : Nat) (a_0_11 : Nat) (k_1 : Int) (rn0 : Nat) (rf0 : (Nat → S_impl_Entry)) (rn1 : Nat) (rf1 : (Nat → Int)) (rn2 : Nat) (rf2 : (Nat → Int)) (rn3 : Nat) (rf3 : (Nat → Int)) (dn4 : Nat) (dp4 : Nat) (df4 : (Nat → S_impl_Mail)) : evFunU E (pc_b23 fu) msk_b23 (lp_b23 fu) out_b23 13 [(.agg [(.int .i64 a_0_0), (.int .i64 a_0_1), (.int .i64 a_0_2), (.int .i64 a_0_3), (.int .i64 a_0_4), (.os 0 a_0_5), (.int .i64 a_0_6), (.int .i64 a_0_7), (.os 1 a_0_8), (.os 2 a_0_9), (.os 3 a_0_10), (.os 4 a_0_11)]), (.int .i64 k_1)] [(.row true .impl_Entry rn0 rf0), (.row true .i64 rn1 rf1), (.row true .i64 rn2 rf2), (.row true .i64 rn3 rf3), (.deep true .impl_Mail dn4 dp4 df4)] = F_laws_markNodeResult_U fu a_0_0 a_0_1 a_0_2 a_0_3 a_0_4 a_0_5 a_0_6 a_0_7 a_0_8 a_0_9 a_0_10 a_0_11 k_1 rn0 rf0 rn1 rf1 rn2 rf2 rn3 rf3 dn4 dp4 df4 := by kernel_rfl
noncomputable def body_b23 : Code := Try.f13.body.getD .skip
theorem lpok_b23 (fu : Nat) : LpOk E (pc_b23 fu) 0 msk_b23 (lp_b23 fu) (loops 0 body_b23) := lp_nil (loop_nil (by kernel_rfl)) (by kernel_rfl)
def S_b23 (fu : Nat) (xs : List (D RT den)) (ins : List (Ob RT den)) : Option (OutX RT den) := match xs, ins with | [.agg [.int .i64 a0_0, .int .i64 a0_1, .int .i64 a0_2, .int .i64 a0_3, .int .i64 a0_4, .os 0 a0_5, .int .i64 a0_6, .int .i64 a0_7, .os 1 a0_8, .os 2 a0_9, .os 3 a0_10, .os 4 a0_11], .int .i64 a1_0], [.row true .impl_Entry rn0 rf0, .row true .i64 rn1 rf1, .row true .i64 rn2 rf2, .row true .i64 rn3 rf3, .deep true .impl_Mail dn4 dp4 df4] => some ⟨Yf1, F_laws_markNodeResult_U fu a0_0 a0_1 a0_2 a0_3 a0_4 a0_5 a0_6 a0_7 a0_8 a0_9 a0_10 a0_11 a1_0 rn0 rf0 rn1 rf1 rn2 rf2 rn3 rf3 dn4 dp4 df4, enc_b23⟩ | _, _ => none
theorem hpx_b23 (fu : Nat) : ∀ f xs ins o, pcx_b23 fu f xs ins = some o → ∀ y, o.x = some y → GoodXD E Try.prog (pcd_b23 f) f xs ins (o.g y).1 (o.g y).2 := by
  intro f xs ins o h
  unfold pcx_b23 at h
  split at h
  · exact good_b21 fu xs ins o h
  · exact good_b22 fu xs ins o h
  · cases h
theorem goodv_b23 (fu : Nat) (a_0_0 : Int) (a_0_1 : Int) (a_0_2 : Int) (a_0_3 : Int) (a_0_4 : Int) (a_0_5 : Nat) (a_0_6 : Int) (a_0_7 : Int) (a_0_8 : Nat) (a_0_9 : Nat) (a_0_10 : Nat) (a_0_11 : Nat) (k_1 : Int) (rn0 : Nat) (rf0 : (Nat → S_impl_Entry)) (rn1 : Nat) (rf1 : (Nat → Int)) (rn2 : Nat) (rf2 : (Nat → Int)) (rn3 : Nat) (rf3 : (Nat → Int)) (dn4 : Nat) (dp4 : Nat) (df4 : (Nat → S_impl_Mail)) (y : Yf1) (hy : F_laws_markNodeResult_U fu a_0_0 a_0_1 a_0_2 a_0_3 a_0_4 a_0_5 a_0_6 a_0_7 a_0_8 a_0_9 a_0_10 a_0_11 k_1 rn0 rf0 rn1 rf1 rn2 rf2 rn3 rf3 dn4 dp4 df4 = some y) : GoodD E Try.prog 13 [(.agg [(.int .i64 a_0_0), (.int .i64 a_0_1), (.int .i64 a_0_2), (.int .i64 a_0_3), (.int .i64 a_0_4), (.os 0 a_0_5), (.int .i64 a_0_6), (.int .i64 a_0_7), (.os 1 a_0_8), (.os 2 a_0_9), (.os 3 a_0_10), (.os 4 a_0_11)]), (.int .i64 k_1)] [(.row true .impl_Entry rn0 rf0), (.row true .i64 rn1 rf1), (.row true .i64 rn2 rf2), (.row true .i64 rn3 rf3), (.deep true .impl_Mail dn4 dp4 df4)] (enc_b23 y).1 (enc_b23 y).2 :=
  funU_good E_ok (pc_good (pc := pc_b23 fu) hpc0 (hpx_b23 fu)) (fn := Try.f13) (c := body_b23) (out := out_b23) (y := y) (by kernel_rfl) (by kernel_rfl) (by kernel_rfl) (lpok_b23 fu) (by kernel_rfl) (Nat.le_of_ble_eq_true (by kernel_rfl)) (Fulls.get 5 trivial) (fun d os hd => out_b23_enc d os _ hd) ((ev_b23 fu a_0_0 a_0_1 a_0_2 a_0_3 a_0_4 a_0_5 a_0_6 a_0_7 a_0_8 a_0_9 a_0_10 a_0_11 k_1 rn0 rf0 rn1 rf1 rn2 rf2 rn3 rf3 dn4 dp4 df4).trans hy)
theorem good_b23 (fu : Nat) : ∀ xs ins o, S_b23 fu xs ins = some o → ∀ y, o.x = some y → GoodD E Try.prog 13 xs ins (o.g y).1 (o.g y).2 := by
  intro xs ins o h y hy
  unfold S_b23 at h
  split at h
  · rename_i a0_0 a0_1 a0_2 a0_3 a0_4 a0_5 a0_6 a0_7 a0_8 a0_9 a0_10 a0_11 a1_0 rn0 rf0 rn1 rf1 rn2 rf2 rn3 rf3 dn4 dp4 df4
    cases h
    exact goodv_b23 fu a0_0 a0_1 a0_2 a0_3 a0_4 a0_5 a0_6 a0_7 a0_8 a0_9 a0_10 a0_11 a1_0 rn0 rf0 rn1 rf1 rn2 rf2 rn3 rf3 dn4 dp4 df4 y hy
  · cases h

/-! laws.szEntryS -/
def F_laws_szEntryS (fu : Nat) (a_0 : (Sl S_laws_Entry)) (left_1 : Int) : Option (Int) :=
  (bif (decide ((IntKind.wrap .i64 (left_1 - ((a_0.n : Nat) : Int))) < 0)) then (some (-1)) else (some (IntKind.wrap .i64 (left_1 - ((a_0.n : Nat) : Int)))))
def pc_b24 (fu : Nat) : Pc RT den := ⟨pcf0, fun _ => false, fun _ => false, pcd0, pcd0, pcx0⟩
def msk_b24 (b : Nat) : List Nat := []
def lp_b24 (fu : Nat) : Lp RT den (Int) := ⟨fun b s k => none, inl0⟩
theorem ev_b24 (fu : Nat) (a_0 : (Sl S_laws_Entry)) (left_1 : Int) : evFun E (pc_b24 fu) msk_b24 (lp_b24 fu) out_i64 23 [(.rs a_0.z .laws_Entry a_0.n a_0.f), (.int .i64 left_1)] = F_laws_szEntryS fu a_0 left_1 := by kernel_rfl
noncomputable def body_b24 : Code := Try.f23.body.getD .skip
theorem lpok_b24 (fu : Nat) : LpOk E (pc_b24 fu) 0 msk_b24 (lp_b24 fu) (loops 0 body_b24) := lp_nil (loop_nil (by kernel_rfl)) (by kernel_rfl)
def S_b24 (fu : Nat) (xs : List (D RT den)) : Option (Out RT den) := match xs with | [.rs za0_0 .laws_Entry na0_0 fa0_0, .int .i64 a1_0] => some ⟨Int, F_laws_szEntryS fu (⟨za0_0, na0_0, fa0_0⟩ : (Sl S_laws_Entry)) a1_0, enc_i64, fun _ => true⟩ | _ => none
theorem goodv_b24 (fu : Nat) (a_0 : (Sl S_laws_Entry)) (left_1 : Int) (y : Int) (hy : F_laws_szEntryS fu a_0 left_1 = some y) : Good E Try.prog 23 [(.rs a_0.z .laws_Entry a_0.n a_0.f), (.int .i64 left_1)] (enc_i64 y) :=
  fun_good E_ok (pc_good (pc := pc_b24 fu) hpc0 hpx0) (fn := Try.f23) (c := body_b24) (out := out_i64) (y := y) (by kernel_rfl) (by kernel_rfl) (by kernel_rfl) (lpok_b24 fu) (fun d hd => out_i64_enc d _ hd) ((ev_b24 fu a_0 left_1).trans hy)
theorem good_b24 (fu : Nat) : ∀ xs o, S_b24 fu xs = some o → ∀ y, o.x = some y → Good E Try.prog 23 xs (o.g y) := by
  intro xs o h y hy
  unfold S_b24 at h
  split at h
  · rename_i za0_0 na0_0 fa0_0 a1_0
    cases h
    exact goodv_b24 fu (⟨za0_0, na0_0, fa0_0⟩ : (Sl S_laws_Entry)) a1_0 y hy
  · cases h

/-! laws.szInt64S -/
def F_laws_szInt64S (fu : Nat) (a_0 : (Sl Int)) (left_1 : Int) : Option (Int) :=
  (bif (decide ((IntKind.wrap .i64 (left_1 - ((a_0.n : Nat) : Int))) < 0)) then (some (-1)) else (some (IntKind.wrap .i64 (left_1 - ((a_0.n : Nat) : Int)))))
def pc_b25 (fu : Nat) : Pc RT den := ⟨pcf0, fun _ => false, fun _ => false, pcd0, pcd0, pcx0⟩
def msk_b25 (b : Nat) : List Nat := []
def lp_b25 (fu : Nat) : Lp RT den (Int) := ⟨fun b s k => none, inl0⟩
theorem ev_b25 (fu : Nat) (a_0 : (Sl Int)) (left_1 : Int) : evFun E (pc_b25 fu) msk_b25 (lp_b25 fu) out_i64 24 [(.rs a_0.z .i64 a_0.n a_0.f), (.int .i64 left_1)] = F_laws_szInt64S fu a_0 left_1 := by kernel_rfl
noncomputable def body_b25 : Code := Try.f24.body.getD .skip
theorem lpok_b25 (fu : Nat) : LpOk E (pc_b25 fu) 0 msk_b25 (lp_b25 fu) (loops 0 body_b25) := lp_nil (loop_nil (by kernel_rfl)) (by kernel_rfl)
def S_b25 (fu : Nat) (xs : List (D RT den)) : Option (Out RT den) := match xs with | [.rs za0_0 .i64 na0_0 fa0_0, .int .i64 a1_0] => some ⟨Int, F_laws_szInt64S fu (⟨za0_0, na0_0, fa0_0⟩ : (Sl Int)) a1_0, enc_i64, fun _ => true⟩ | _ => none
theorem goodv_b25 (fu : Nat) (a_0 : (Sl Int)) (left_1 : Int) (y : Int) (hy : F_laws_szInt64S fu a_0 left_1 = some y) : Good E Try.prog 24 [(.rs a_0.z .i64 a_0.n a_0.f), (.int .i64 left_1)] (enc_i64 y) :=
  fun_good E_ok (pc_good (pc := pc_b25 fu) hpc0 hpx0) (fn := Try.f24) (c := body_b25) (out := out_i64) (y := y) (by kernel_rfl) (by kernel_rfl) (by kernel_rfl) (lpok_b25 fu) (fun d hd => out_i64_enc d _ hd) ((ev_b25 fu a_0 left_1).trans hy)
theorem good_b25 (fu : Nat) : ∀ xs o, S_b25 fu xs = some o → ∀ y, o.x = some y → Good E Try.prog 24 xs (o.g y) := by
  intro xs o h y hy
  unfold S_b25 at h
  split at h
  · rename_i za0_0 na0_0 fa0_0 a1_0
    cases h
    exact goodv_b25 fu (⟨za0_0, na0_0, fa0_0⟩ : (Sl Int)) a1_0 y hy
  · cases h

/-! laws.szNode -/
def F_laws_szNode (fu : Nat) (a_0 : S_laws_Node) (left_1 : Int) : Option (Int) :=
  ((F_laws_szEntryS fu a_0.Log left_1).bind fun y403 => (bif (decide (y403 < 0)) then (some (-1)) else ((F_laws_szInt64S fu a_0.Votes y403).bind fun y404 => (bif (decide (y404 < 0)) then
    (some (-1)) else ((F_laws_szInt64S fu a_0.Next y404).bind fun y405 => (bif (decide (y405 < 0)) then (some (-1)) else ((F_laws_szInt64S fu a_0.Match y405).bind fun y406 => (bif (decide (y406 < 0)) then
    (some (-1)) else (some y406)))))))))
def pcf_b26 (fu : Nat) (f : Nat) (xs : List (D RT den)) : Option (Out RT den) := match f with | 23 => S_b24 fu xs | 24 => S_b25 fu xs | _ => none
def pc_b26 (fu : Nat) : Pc RT den := ⟨pcf_b26 fu, fun _ => false, fun _ => false, pcd0, pcd0, pcx0⟩
def msk_b26 (b : Nat) : List Nat := []
def lp_b26 (fu : Nat) : Lp RT den (Int) := ⟨fun b s k => none, inl0⟩
theorem ev_b26 (fu : Nat) (a_0 : S_laws_Node) (left_1 : Int) : evFun E (pc_b26 fu) msk_b26 (lp_b26 fu) out_i64 6 [(.agg [(.int .i64 a_0.Id), (.int .i64 a_0.Peers), (.int .i64 a_0.Term), (.int .i64 a_0.Voted), (.rs a_0.Log.z .laws_Entry a_0.Log.n a_0.Log.f), (.int .i64 a_0.Role), (.int .i64 a_0.Commit), (.rs a_0.Votes.z .i64 a_0.Votes.n a_0.Votes.f), (.rs a_0.Next.z .i64 a_0.Next.n a_0.Next.f), (.rs a_0.Match.z .i64 a_0.Match.n a_0.Match.f)]), (.int .i64 left_1)] = F_laws_szNode fu a_0 left_1 := by kernel_rfl
noncomputable def body_b26 : Code := Try.f6.body.getD .skip
theorem lpok_b26 (fu : Nat) : LpOk E (pc_b26 fu) 0 msk_b26 (lp_b26 fu) (loops 0 body_b26) := lp_nil (loop_nil (by kernel_rfl)) (by kernel_rfl)
def S_b26 (fu : Nat) (xs : List (D RT den)) : Option (Out RT den) := match xs with | [.agg [.int .i64 a0_1, .int .i64 a0_2, .int .i64 a0_3, .int .i64 a0_4, .rs za0_5 .laws_Entry na0_5 fa0_5, .int .i64 a0_6, .int .i64 a0_7, .rs za0_8 .i64 na0_8 fa0_8, .rs za0_9 .i64 na0_9 fa0_9, .rs za0_10 .i64 na0_10 fa0_10], .int .i64 a1_0] => some ⟨Int, F_laws_szNode fu (⟨a0_1, a0_2, a0_3, a0_4, (⟨za0_5, na0_5, fa0_5⟩ : (Sl S_laws_Entry)), a0_6, a0_7, (⟨za0_8, na0_8, fa0_8⟩ : (Sl Int)), (⟨za0_9, na0_9, fa0_9⟩ : (Sl Int)), (⟨za0_10, na0_10, fa0_10⟩ : (Sl Int))⟩ : S_laws_Node) a1_0, enc_i64, fun _ => true⟩ | _ => none
theorem hpc_b26 (fu : Nat) : ∀ f xs o, pcf_b26 fu f xs = some o → ∀ y, o.x = some y → Good E Try.prog f xs (o.g y) := by
  intro f xs o h
  unfold pcf_b26 at h
  split at h
  · exact good_b24 fu xs o h
  · exact good_b25 fu xs o h
  · cases h
theorem goodv_b26 (fu : Nat) (a_0 : S_laws_Node) (left_1 : Int) (y : Int) (hy : F_laws_szNode fu a_0 left_1 = some y) : Good E Try.prog 6 [(.agg [(.int .i64 a_0.Id), (.int .i64 a_0.Peers), (.int .i64 a_0.Term), (.int .i64 a_0.Voted), (.rs a_0.Log.z .laws_Entry a_0.Log.n a_0.Log.f), (.int .i64 a_0.Role), (.int .i64 a_0.Commit), (.rs a_0.Votes.z .i64 a_0.Votes.n a_0.Votes.f), (.rs a_0.Next.z .i64 a_0.Next.n a_0.Next.f), (.rs a_0.Match.z .i64 a_0.Match.n a_0.Match.f)]), (.int .i64 left_1)] (enc_i64 y) :=
  fun_good E_ok (pc_good (pc := pc_b26 fu) (hpc_b26 fu) hpx0) (fn := Try.f6) (c := body_b26) (out := out_i64) (y := y) (by kernel_rfl) (by kernel_rfl) (by kernel_rfl) (lpok_b26 fu) (fun d hd => out_i64_enc d _ hd) ((ev_b26 fu a_0 left_1).trans hy)
theorem good_b26 (fu : Nat) : ∀ xs o, S_b26 fu xs = some o → ∀ y, o.x = some y → Good E Try.prog 6 xs (o.g y) := by
  intro xs o h y hy
  unfold S_b26 at h
  split at h
  · rename_i a0_1 a0_2 a0_3 a0_4 za0_5 na0_5 fa0_5 a0_6 a0_7 za0_8 na0_8 fa0_8 za0_9 na0_9 fa0_9 za0_10 na0_10 fa0_10 a1_0
    cases h
    exact goodv_b26 fu (⟨a0_1, a0_2, a0_3, a0_4, (⟨za0_5, na0_5, fa0_5⟩ : (Sl S_laws_Entry)), a0_6, a0_7, (⟨za0_8, na0_8, fa0_8⟩ : (Sl Int)), (⟨za0_9, na0_9, fa0_9⟩ : (Sl Int)), (⟨za0_10, na0_10, fa0_10⟩ : (Sl Int))⟩ : S_laws_Node) a1_0 y hy
  · cases h

/-! laws.eqCmd -/
def F_laws_eqCmd (fu : Nat) (a_0 : S_impl_Cmd) (b_1 : S_impl_Cmd) : Option (Bool) :=
  (bif (a_0.Kind != b_1.Kind) then (some false) else (bif (a_0.Expect != b_1.Expect) then (some false) else (bif (a_0.Name != b_1.Name) then (some false) else (bif (a_0.Addr != b_1.Addr) then
    (some false) else (bif (a_0.Number != b_1.Number) then (some false) else (bif (a_0.Proto != b_1.Proto) then (some false) else (some true)))))))
def pc_b27 (fu : Nat) : Pc RT den := ⟨pcf0, fun _ => false, fun _ => false, pcd0, pcd0, pcx0⟩
def msk_b27 (b : Nat) : List Nat := []
def lp_b27 (fu : Nat) : Lp RT den (Bool) := ⟨fun b s k => none, inl0⟩
theorem ev_b27 (fu : Nat) (a_0 : S_impl_Cmd) (b_1 : S_impl_Cmd) : evFun E (pc_b27 fu) msk_b27 (lp_b27 fu) out_bo 92 [(.agg [(.int .i64 a_0.Kind), (.int .i64 a_0.Expect), (.int .i64 a_0.Name), (.int .i64 a_0.Addr), (.int .i64 a_0.Number), (.int .i64 a_0.Proto)]), (.agg [(.int .i64 b_1.Kind), (.int .i64 b_1.Expect), (.int .i64 b_1.Name), (.int .i64 b_1.Addr), (.int .i64 b_1.Number), (.int .i64 b_1.Proto)])] = F_laws_eqCmd fu a_0 b_1 := by kernel_rfl
noncomputable def body_b27 : Code := Try.f92.body.getD .skip
theorem lpok_b27 (fu : Nat) : LpOk E (pc_b27 fu) 0 msk_b27 (lp_b27 fu) (loops 0 body_b27) := lp_nil (loop_nil (by kernel_rfl)) (by kernel_rfl)
def S_b27 (fu : Nat) (xs : List (D RT den)) : Option (Out RT den) := match xs with | [.agg [.int .i64 a0_1, .int .i64 a0_2, .int .i64 a0_3, .int .i64 a0_4, .int .i64 a0_5, .int .i64 a0_6], .agg [.int .i64 a1_1, .int .i64 a1_2, .int .i64 a1_3, .int .i64 a1_4, .int .i64 a1_5, .int .i64 a1_6]] => some ⟨Bool, F_laws_eqCmd fu (⟨a0_1, a0_2, a0_3, a0_4, a0_5, a0_6⟩ : S_impl_Cmd) (⟨a1_1, a1_2, a1_3, a1_4, a1_5, a1_6⟩ : S_impl_Cmd), enc_bo, fun _ => true⟩ | _ => none
theorem goodv_b27 (fu : Nat) (a_0 : S_impl_Cmd) (b_1 : S_impl_Cmd) (y : Bool) (hy : F_laws_eqCmd fu a_0 b_1 = some y) : Good E Try.prog 92 [(.agg [(.int .i64 a_0.Kind), (.int .i64 a_0.Expect), (.int .i64 a_0.Name), (.int .i64 a_0.Addr), (.int .i64 a_0.Number), (.int .i64 a_0.Proto)]), (.agg [(.int .i64 b_1.Kind), (.int .i64 b_1.Expect), (.int .i64 b_1.Name), (.int .i64 b_1.Addr), (.int .i64 b_1.Number), (.int .i64 b_1.Proto)])] (enc_bo y) :=
  fun_good E_ok (pc_good (pc := pc_b27 fu) hpc0 hpx0) (fn := Try.f92) (c := body_b27) (out := out_bo) (y := y) (by kernel_rfl) (by kernel_rfl) (by kernel_rfl) (lpok_b27 fu) (fun d hd => out_bo_enc d _ hd) ((ev_b27 fu a_0 b_1).trans hy)
theorem good_b27 (fu : Nat) : ∀ xs o, S_b27 fu xs = some o → ∀ y, o.x = some y → Good E Try.prog 92 xs (o.g y) := by
  intro xs o h y hy
  unfold S_b27 at h
  split at h
  · rename_i a0_1 a0_2 a0_3 a0_4 a0_5 a0_6 a1_1 a1_2 a1_3 a1_4 a1_5 a1_6
    cases h
    exact goodv_b27 fu (⟨a0_1, a0_2, a0_3, a0_4, a0_5, a0_6⟩ : S_impl_Cmd) (⟨a1_1, a1_2, a1_3, a1_4, a1_5, a1_6⟩ : S_impl_Cmd) y hy
  · cases h

/-! laws.eqEntry -/
def F_laws_eqEntry (fu : Nat) (a_0 : S_impl_Entry) (b_1 : S_impl_Entry) : Option (Bool) :=
  (bif (a_0.Term != b_1.Term) then (some false) else (bif (a_0.Client != b_1.Client) then (some false) else (bif (a_0.Seq != b_1.Seq) then (some false) else ((F_laws_eqCmd fu a_0.Cmd b_1.Cmd).bind fun y414 =>
    (bif (!y414) then (some false) else (some true))))))
def pcf_b28 (fu : Nat) (f : Nat) (xs : List (D RT den)) : Option (Out RT den) := match f with | 92 => S_b27 fu xs | _ => none
def pc_b28 (fu : Nat) : Pc RT den := ⟨pcf_b28 fu, fun _ => false, fun _ => false, pcd0, pcd0, pcx0⟩
def msk_b28 (b : Nat) : List Nat := []
def lp_b28 (fu : Nat) : Lp RT den (Bool) := ⟨fun b s k => none, inl0⟩
theorem ev_b28 (fu : Nat) (a_0 : S_impl_Entry) (b_1 : S_impl_Entry) : evFun E (pc_b28 fu) msk_b28 (lp_b28 fu) out_bo 78 [(.agg [(.int .i64 a_0.Term), (.int .i64 a_0.Client), (.int .i64 a_0.Seq), (.int .i64 a_0.Cmd.Kind), (.int .i64 a_0.Cmd.Expect), (.int .i64 a_0.Cmd.Name), (.int .i64 a_0.Cmd.Addr), (.int .i64 a_0.Cmd.Number), (.int .i64 a_0.Cmd.Proto)]), (.agg [(.int .i64 b_1.Term), (.int .i64 b_1.Client), (.int .i64 b_1.Seq), (.int .i64 b_1.Cmd.Kind), (.int .i64 b_1.Cmd.Expect), (.int .i64 b_1.Cmd.Name), (.int .i64 b_1.Cmd.Addr), (.int .i64 b_1.Cmd.Number), (.int .i64 b_1.Cmd.Proto)])] = F_laws_eqEntry fu a_0 b_1 := by kernel_rfl
noncomputable def body_b28 : Code := Try.f78.body.getD .skip
theorem lpok_b28 (fu : Nat) : LpOk E (pc_b28 fu) 0 msk_b28 (lp_b28 fu) (loops 0 body_b28) := lp_nil (loop_nil (by kernel_rfl)) (by kernel_rfl)
def S_b28 (fu : Nat) (xs : List (D RT den)) : Option (Out RT den) := match xs with | [.agg [.int .i64 a0_1, .int .i64 a0_2, .int .i64 a0_3, .int .i64 a0_5, .int .i64 a0_6, .int .i64 a0_7, .int .i64 a0_8, .int .i64 a0_9, .int .i64 a0_10], .agg [.int .i64 a1_1, .int .i64 a1_2, .int .i64 a1_3, .int .i64 a1_5, .int .i64 a1_6, .int .i64 a1_7, .int .i64 a1_8, .int .i64 a1_9, .int .i64 a1_10]] => some ⟨Bool, F_laws_eqEntry fu (⟨a0_1, a0_2, a0_3, (⟨a0_5, a0_6, a0_7, a0_8, a0_9, a0_10⟩ : S_impl_Cmd)⟩ : S_impl_Entry) (⟨a1_1, a1_2, a1_3, (⟨a1_5, a1_6, a1_7, a1_8, a1_9, a1_10⟩ : S_impl_Cmd)⟩ : S_impl_Entry), enc_bo, fun _ => true⟩ | _ => none
theorem hpc_b28 (fu : Nat) : ∀ f xs o, pcf_b28 fu f xs = some o → ∀ y, o.x = some y → Good E Try.prog f xs (o.g y) := by
  intro f xs o h
  unfold pcf_b28 at h
  split at h
  · exact good_b27 fu xs o h
  · cases h
theorem goodv_b28 (fu : Nat) (a_0 : S_impl_Entry) (b_1 : S_impl_Entry) (y : Bool) (hy : F_laws_eqEntry fu a_0 b_1 = some y) : Good E Try.prog 78 [(.agg [(.int .i64 a_0.Term), (.int .i64 a_0.Client), (.int .i64 a_0.Seq), (.int .i64 a_0.Cmd.Kind), (.int .i64 a_0.Cmd.Expect), (.int .i64 a_0.Cmd.Name), (.int .i64 a_0.Cmd.Addr), (.int .i64 a_0.Cmd.Number), (.int .i64 a_0.Cmd.Proto)]), (.agg [(.int .i64 b_1.Term), (.int .i64 b_1.Client), (.int .i64 b_1.Seq), (.int .i64 b_1.Cmd.Kind), (.int .i64 b_1.Cmd.Expect), (.int .i64 b_1.Cmd.Name), (.int .i64 b_1.Cmd.Addr), (.int .i64 b_1.Cmd.Number), (.int .i64 b_1.Cmd.Proto)])] (enc_bo y) :=
  fun_good E_ok (pc_good (pc := pc_b28 fu) (hpc_b28 fu) hpx0) (fn := Try.f78) (c := body_b28) (out := out_bo) (y := y) (by kernel_rfl) (by kernel_rfl) (by kernel_rfl) (lpok_b28 fu) (fun d hd => out_bo_enc d _ hd) ((ev_b28 fu a_0 b_1).trans hy)
theorem good_b28 (fu : Nat) : ∀ xs o, S_b28 fu xs = some o → ∀ y, o.x = some y → Good E Try.prog 78 xs (o.g y) := by
  intro xs o h y hy
  unfold S_b28 at h
  split at h
  · rename_i a0_1 a0_2 a0_3 a0_5 a0_6 a0_7 a0_8 a0_9 a0_10 a1_1 a1_2 a1_3 a1_5 a1_6 a1_7 a1_8 a1_9 a1_10
    cases h
    exact goodv_b28 fu (⟨a0_1, a0_2, a0_3, (⟨a0_5, a0_6, a0_7, a0_8, a0_9, a0_10⟩ : S_impl_Cmd)⟩ : S_impl_Entry) (⟨a1_1, a1_2, a1_3, (⟨a1_5, a1_6, a1_7, a1_8, a1_9, a1_10⟩ : S_impl_Cmd)⟩ : S_impl_Entry) y hy
  · cases h

/-! laws.eqEntryS -/
def F_laws_eqEntryS_B0 {ρ : Type} (fu : Nat) (a0_0 : (Sl S_impl_Entry)) (b1_1 : (Sl S_impl_Entry)) (k0 : Option ρ) (k1 : Option ρ) (i5_2 : Int) (go : Int → Option ρ) : Option ρ :=
  (bif (decide (i5_2 < ((a0_0.n : Nat) : Int))) then ((bif (decide (0 ≤ i5_2) && decide ((Int.toNat i5_2) < a0_0.n)) then some () else none : Option Unit).bind fun _ => ((bif (decide (0 ≤ i5_2) &&
    decide ((Int.toNat i5_2) < b1_1.n)) then some () else none : Option Unit).bind fun _ => ((F_laws_eqEntry fu (a0_0.f (Int.toNat i5_2)) (b1_1.f (Int.toNat i5_2))).bind fun y413 =>
    (bif (!y413) then k0 else (go (IntKind.wrap .i64 (i5_2 + 1))))))) else k1)
def F_laws_eqEntryS (fu : Nat) (a_0 : (Sl S_impl_Entry)) (b_1 : (Sl S_impl_Entry)) : Option (Bool) :=
  (bif (((a_0.n : Nat) : Int) != ((b_1.n : Nat) : Int)) then (some false) else (L (fun w0 go0 => F_laws_eqEntryS_B0 fu a_0 b_1 (some false) (some true) w0 go0) fu (0 : Int)))
def pcf_b29 (fu : Nat) (f : Nat) (xs : List (D RT den)) : Option (Out RT den) := match f with | 78 => S_b28 fu xs | _ => none
def pc_b29 (fu : Nat) : Pc RT den := ⟨pcf_b29 fu, fun _ => false, fun _ => false, pcd0, pcd0, pcx0⟩
def msk_b29 (b : Nat) : List Nat := match b with | 0 => (2 :: 3 :: 4 :: (rg 6 21 [])) | 100000 => (0 :: 1 :: 2 :: 3 :: (rg 5 22 [])) | _ => []
def ps_b29_0 : List (Pat RT) := (.flat (.rs .impl_Entry) :: .flat (.rs .impl_Entry) :: .flat .q :: .flat .q :: .flat .q :: .flat (.int .i64) :: (fq 21 []))
def os_b29_0 : List (OP RT) := []
def conv_b29_0 (r : Raw den ps_b29_0 os_b29_0) : ((Sl S_impl_Entry) × (Sl S_impl_Entry)) × (Int) := ((r.1.1, r.1.2.1), (e5 r.1).1)
def back_b29_0 (c : (Sl S_impl_Entry) × (Sl S_impl_Entry)) (w : Int) : St RT den := ⟨((.rs c.1.z .impl_Entry c.1.n c.1.f) :: (.rs c.2.z .impl_Entry c.2.n c.2.f) :: .q :: .q :: .q :: (.int .i64 w) :: (qs 21 [])), []⟩
def Bk_b29_0 {ρ : Type} (fu : Nat) (c : (Sl S_impl_Entry) × (Sl S_impl_Entry)) (k : Ex → St RT den → Option ρ) (w : Int) (go : (Int) → Option ρ) : Option ρ := F_laws_eqEntryS_B0 fu c.1 c.2 (k .ret ⟨(qs 4 ((.bool false) :: (qs 22 []))), []⟩) (k (.exit 0) ⟨(qs 27 []), []⟩) w go
def lp_b29 (fu : Nat) : Lp RT den (Bool) := ⟨fun b s k => match b with | 0 => handle ps_b29_0 os_b29_0 conv_b29_0 (Bk_b29_0 fu) fu s k | _ => none, inl0⟩
theorem ev_b29 (fu : Nat) (a_0 : (Sl S_impl_Entry)) (b_1 : (Sl S_impl_Entry)) : evFun E (pc_b29 fu) msk_b29 (lp_b29 fu) out_bo 39 [(.rs a_0.z .impl_Entry a_0.n a_0.f), (.rs b_1.z .impl_Entry b_1.n b_1.f)] = F_laws_eqEntryS fu a_0 b_1 := by kernel_rfl
noncomputable def body_b29 : Code := Try.f39.body.getD .skip
noncomputable def lc_b29_0 : Code := ((loops 0 body_b29).getD 0 (0, .skip)).2
theorem round_b29_0 (fu : Nat) (it : St RT den → Option (Bool)) (k : Ex → St RT den → Option (Bool)) c w : evCode E (pc_b29 fu) msk_b29 (lp_b29 fu) 0 lc_b29_0 (back_b29_0 c w) (after (msk_b29 0) (msk_b29 100000) 0 it k) = Bk_b29_0 fu c k w (fun w => it (back_b29_0 c w)) := by kernel_rfl
theorem lpok_b29_0 (fu : Nat) : ∀ s k r, (lp_b29 fu).lp 0 s k = some r → ∃ fuel, iter (msk_b29 0) (msk_b29 100000) s.objs.length (evCode E (pc_b29 fu) msk_b29 (lp_b29 fu) 0 lc_b29_0) fuel s k = some r :=
  handle_ok (ps := ps_b29_0) (os := os_b29_0) (conv := conv_b29_0) (B := Bk_b29_0 fu) (fu := fu) back_b29_0 (fun raw => by kernel_rfl) 0 (fun c w => by kernel_rfl) (round_b29_0 fu)
theorem lpok_b29 (fu : Nat) : LpOk E (pc_b29 fu) 0 msk_b29 (lp_b29 fu) (loops 0 body_b29) := lp_nil (loop_all 1 (by kernel_rfl) fun i hi => match i, hi with
  | 0, _ => by
    have h : (loops 0 body_b29).getD 0 (0, .skip) = (0, lc_b29_0) := by kernel_rfl
    rw [h]; exact lpok_b29_0 fu
  | i + 1, hi => absurd hi (by omega)) (by kernel_rfl)
def S_b29 (fu : Nat) (xs : List (D RT den)) : Option (Out RT den) := match xs with | [.rs za0_0 .impl_Entry na0_0 fa0_0, .rs za1_0 .impl_Entry na1_0 fa1_0] => some ⟨Bool, F_laws_eqEntryS fu (⟨za0_0, na0_0, fa0_0⟩ : (Sl S_impl_Entry)) (⟨za1_0, na1_0, fa1_0⟩ : (Sl S_impl_Entry)), enc_bo, fun _ => true⟩ | _ => none
theorem hpc_b29 (fu : Nat) : ∀ f xs o, pcf_b29 fu f xs = some o → ∀ y, o.x = some y → Good E Try.prog f xs (o.g y) := by
  intro f xs o h
  unfold pcf_b29 at h
  split at h
  · exact good_b28 fu xs o h
  · cases h
theorem goodv_b29 (fu : Nat) (a_0 : (Sl S_impl_Entry)) (b_1 : (Sl S_impl_Entry)) (y : Bool) (hy : F_laws_eqEntryS fu a_0 b_1 = some y) : Good E Try.prog 39 [(.rs a_0.z .impl_Entry a_0.n a_0.f), (.rs b_1.z .impl_Entry b_1.n b_1.f)] (enc_bo y) :=
  fun_good E_ok (pc_good (pc := pc_b29 fu) (hpc_b29 fu) hpx0) (fn := Try.f39) (c := body_b29) (out := out_bo) (y := y) (by kernel_rfl) (by kernel_rfl) (by kernel_rfl) (lpok_b29 fu) (fun d hd => out_bo_enc d _ hd) ((ev_b29 fu a_0 b_1).trans hy)
theorem good_b29 (fu : Nat) : ∀ xs o, S_b29 fu xs = some o → ∀ y, o.x = some y → Good E Try.prog 39 xs (o.g y) := by
  intro xs o h y hy
  unfold S_b29 at h
  split at h
  · rename_i za0_0 na0_0 fa0_0 za1_0 na1_0 fa1_0
    cases h
    exact goodv_b29 fu (⟨za0_0, na0_0, fa0_0⟩ : (Sl S_impl_Entry)) (⟨za1_0, na1_0, fa1_0⟩ : (Sl S_impl_Entry)) y hy
  · cases h
end Go.Proofs.Ytjdgfkmiaikegaa.Pd
