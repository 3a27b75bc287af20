/- The functions' evaluated forms, each a proved summary. Conditions: none. -/
import Derived.Test.YtjdgfkmiaikegaaPeF3
namespace Go.Proofs.Ytjdgfkmiaikegaa.Pe
open Go Go.RowKit Go.Proofs Vm
set_option linter.unusedVariables false
set_option linter.unusedSimpArgs false
set_option maxRecDepth 100000
abbrev Ye0 : Type := Int × Int × Int × Int × Nat × Int × Int × Nat × Nat × Nat × Nat × (Nat → S_impl_Entry) × Nat × (Nat → Int) × Nat × (Nat → Int) × Nat × (Nat → Int)
abbrev Ye1 : Type := Int × Nat × Int × Int × Int × Int × Int × Nat × Int × Int × Nat × Nat × Nat × Nat × (Nat → S_impl_Entry) × Nat × (Nat → Int) × Nat × (Nat → Int) × Nat × (Nat → Int)
abbrev Ye2 : Type := Int × Int × Int × Int × Int × Nat × Int × Int × Nat × Nat × Nat × Nat × Nat × (Nat → S_impl_Entry) × Nat × (Nat → Int) × Nat × (Nat → Int) × Nat × (Nat → Int) × Nat × (Nat → S_impl_Mail)
def F_impl_Node_agree_M_3_B2 {ρ : Type} (fu : Nat) (index2_0 : Int) (t22_2 : Nat) (t23_3 o0_5 o0_6 o0_7 o0_8 : Int) (o0_9 : Nat) (o0_10 o0_11 : Int) (o0_12 o0_13 o0_14 on1_15 : Nat) (of1_16 : (Nat → S_impl_Entry)) (on2_17 : Nat) (of2_18 : (Nat → Int)) (on3_19 : Nat) (of3_20 : (Nat → Int)) (on4_21 : Nat) (of4_22 : (Nat → Int)) (k0 : Int → Option ρ) (many3_1 t24_4 : Int) (go : Int → Int → Option ρ) : Option ρ :=
 (bif (decide (t24_4 < t23_3)) then ((bif (decide (0 ≤ t24_4) && decide ((Int.toNat t24_4) < t22_2)) then some () else none : Option Unit).bind fun _ => (bif (decide ((of4_22 (Int.toNat t24_4)) ≥ index2_0)) then
  (go (IntKind.wrap .i64 (many3_1 + 1)) (IntKind.wrap .i64 (t24_4 + 1))) else (go many3_1 (IntKind.wrap .i64 (t24_4 + 1))))) else (k0 many3_1))
def F_impl_Node_agree_M_3_B0 {ρ : Type} (fu : Nat) (o0_1 o0_2 o0_3 o0_4 : Int) (o0_5 : Nat) (o0_6 o0_7 : Int) (o0_8 o0_9 o0_10 on1_11 : Nat) (of1_12 : (Nat → S_impl_Entry)) (on2_13 : Nat) (of2_14 : (Nat → Int)) (on3_15 : Nat) (of3_16 : (Nat → Int)) (on4_17 : Nat) (of4_18 : (Nat → Int)) (k0 : Int → Option ρ) (k1 : Option ρ) (index2_0 : Int) (go : Int → Option ρ) : Option ρ :=
 (bif (decide (index2_0 > o0_7)) then (L (fun w2 go2 => F_impl_Node_agree_M_3_B2 fu index2_0 o0_10 ((o0_10 : Nat) : Int) o0_1 o0_2 o0_3 o0_4 o0_5 o0_6 o0_7 o0_8 o0_9 o0_10 on1_11 of1_12 on2_13 of2_14 on3_15 of3_16 on4_17 of4_18 (fun z366 =>
  ((((F_impl_Node_isQuorum fu (⟨o0_1, o0_2, o0_3, o0_4, (⟨none, o0_5, of1_12⟩ : (Sl S_impl_Entry)), o0_6, o0_7, (⟨none, o0_8, of2_14⟩ : (Sl Int)), (⟨none, o0_9, of3_16⟩ : (Sl Int)),
  (⟨none, o0_10, of4_18⟩ : (Sl Int))⟩ : S_impl_Node) z366).bind fun y367 => (bif y367 then ((bif (decide (0 ≤ (IntKind.wrap .i64 (index2_0 - 1))) && decide ((Int.toNat (IntKind.wrap .i64 (index2_0 - 1))) < o0_5)) then
  some () else none : Option Unit).bind fun _ => (some ((of1_12 (Int.toNat (IntKind.wrap .i64 (index2_0 - 1)))).Term == o0_3))) else (some false))) : Option Bool).bind fun m368 =>
  (bif m368 then (k0 index2_0) else (go (IntKind.wrap .i64 (index2_0 - 1)))))) w2.1 w2.2 (fun q0 q1 => go2 (q0, q1))) fu ((0, 0) : Int × Int)) else k1)
def F_impl_Node_agree_M_3 (fu : Nat) (b0_0 b0_1 b0_2 b0_3 : Int) (b0_4 : Nat) (b0_5 b0_6 : Int) (b0_7 b0_8 b0_9 rn1 : Nat) (rf1 : (Nat → S_impl_Entry)) (rn2 : Nat) (rf2 : (Nat → Int)) (rn3 : Nat) (rf3 : (Nat → Int)) (rn4 : Nat) (rf4 : (Nat → Int)) : Option (Ye0) :=
 ((F_impl_size_impl_Entry fu (⟨none, b0_4, rf1⟩ : (Sl S_impl_Entry))).bind fun y365 => (L (fun w0 go0 => F_impl_Node_agree_M_3_B0 fu b0_0 b0_1 b0_2 b0_3 b0_4 b0_5 b0_6 b0_7 b0_8 b0_9 rn1 rf1 rn2 rf2 rn3 rf3 rn4 rf4 (fun z369 =>
  (some (b0_0, b0_1, b0_2, b0_3, b0_4, b0_5, z369, b0_7, b0_8, b0_9, rn1, rf1, rn2, rf2, rn3, rf3, rn4, rf4))) (some (b0_0, b0_1, b0_2, b0_3, b0_4, b0_5, b0_6, b0_7, b0_8, b0_9,
  rn1, rf1, rn2, rf2, rn3, rf3, rn4, rf4)) w0 go0) fu (y365 : Int)))
def pcf_b11 (fu f : Nat) (xs : List (D RT den)) : Option (Out RT den) := match f with | 37 => S_a7 fu xs | 50 => S_a3 fu xs | _ => none
def pc_b11 (fu : Nat) : Pc RT den := ⟨pcf_b11 fu, fun _ => false, fun _ => false, pcd0, pcd0, pcx0⟩
def msk_b11 (b : Nat) : List Nat := match b with | 0 => (1 :: (rg 3 54 [])) | 100000 => (rg 0 57 []) | 2 => (1 :: (rg 4 18 (rg 25 32 []))) | 100002 => (1 :: (rg 4 53 [])) | 200010 => [52] | _ => []
def ps_b11_2 : List (Pat RT) := (.flat (.ref 0 0) :: .flat .q :: .flat (.int .i64) :: .flat (.int .i64) :: (fq 18 (.flat (.os 4) :: .flat (.int .i64) :: .flat (.int .i64) :: (fq 32 []))))
def os_b11_2 : List (OP RT) := [.box true [(.int .i64), (.int .i64), (.int .i64), (.int .i64), (.os 1), (.int .i64), (.int .i64), (.os 2), (.os 3), (.os 4)], .row true .impl_Entry, .row true .i64, .row true .i64, .row true .i64]
def conv_b11_2 (r : Raw den ps_b11_2 os_b11_2) : (Ye1) × (Int × Int) := ((r.1.2.2.1, (e20 r.1).2.2.1, (e20 r.1).2.2.2.1, r.2.1.1, r.2.1.2.1, r.2.1.2.2.1, r.2.1.2.2.2.1, r.2.1.2.2.2.2.1, (e5 r.2.1).1, (e5 r.2.1).2.1, (e5 r.2.1).2.2.1, (e5 r.2.1).2.2.2.1, (e5 r.2.1).2.2.2.2.1, r.2.2.1.1, r.2.2.1.2, r.2.2.2.1.1, r.2.2.2.1.2, r.2.2.2.2.1.1, r.2.2.2.2.1.2, (e5 r).1.1, (e5 r).1.2), (r.1.2.2.2.1, (e20 r.1).2.2.2.2.1))
def back_b11_2 (c : Ye1) (w : Int × Int) : St RT den := ⟨((.ref 0 0) :: .q :: (ii c.1) :: (ii w.1) :: (qs 18 ((.os 4 c.2.1) :: (ii c.2.2.1) :: (ii w.2) :: (qs 32 [])))), [(.box true [(ii c.2.2.2.1), (ii c.2.2.2.2.1), (ii (e5 c).1), (ii (e5 c).2.1), (.os 1 (e5 c).2.2.1), (ii (e5 c).2.2.2.1), (ii (e5 c).2.2.2.2.1), (.os 2 (e10 c).1), (.os 3 (e10 c).2.1), (.os 4 (e10 c).2.2.1)]), (.row true .impl_Entry (e10 c).2.2.2.1 (e10 c).2.2.2.2.1), (.row true .i64 (e5 (e10 c)).1 (e5 (e10 c)).2.1), (.row true .i64 (e5 (e10 c)).2.2.1 (e5 (e10 c)).2.2.2.1), (.row true .i64 (e5 (e10 c)).2.2.2.2.1 (e20 c))]⟩
def Bk_b11_2 {ρ : Type} (fu : Nat) (c : Ye1) (k : Ex → St RT den → Option ρ) (w : Int × Int) (go : (Int × Int) → Option ρ) : Option ρ := F_impl_Node_agree_M_3_B2 fu c.1 c.2.1 c.2.2.1 c.2.2.2.1 c.2.2.2.2.1 (e5 c).1 (e5 c).2.1 (e5 c).2.2.1 (e5 c).2.2.2.1 (e5 c).2.2.2.2.1 (e10 c).1 (e10 c).2.1 (e10 c).2.2.1 (e10 c).2.2.2.1 (e10 c).2.2.2.2.1 (e5 (e10 c)).1 (e5 (e10 c)).2.1 (e5 (e10 c)).2.2.1 (e5 (e10 c)).2.2.2.1 (e5 (e10 c)).2.2.2.2.1 (e20 c) (fun a0 => k (.exit 2) ⟨((.ref 0 0) :: .q :: (ii c.1) :: (ii a0) :: (qs 53 [])), [(.box true [(ii c.2.2.2.1), (ii c.2.2.2.2.1), (ii (e5 c).1), (ii (e5 c).2.1), (.os 1 (e5 c).2.2.1), (ii (e5 c).2.2.2.1), (ii (e5 c).2.2.2.2.1), (.os 2 (e10 c).1), (.os 3 (e10 c).2.1), (.os 4 (e10 c).2.2.1)]), (.row true .impl_Entry (e10 c).2.2.2.1 (e10 c).2.2.2.2.1), (.row true .i64 (e5 (e10 c)).1 (e5 (e10 c)).2.1), (.row true .i64 (e5 (e10 c)).2.2.1 (e5 (e10 c)).2.2.2.1), (.row true .i64 (e5 (e10 c)).2.2.2.2.1 (e20 c))]⟩) w.1 w.2 (fun q0 q1 => go (q0, q1))
def ps_b11_0 : List (Pat RT) := (.flat (.ref 0 0) :: .flat .q :: .flat (.int .i64) :: (fq 54 []))
def os_b11_0 : List (OP RT) := [.box true [(.int .i64), (.int .i64), (.int .i64), (.int .i64), (.os 1), (.int .i64), (.int .i64), (.os 2), (.os 3), (.os 4)], .row true .impl_Entry, .row true .i64, .row true .i64, .row true .i64]
def conv_b11_0 (r : Raw den ps_b11_0 os_b11_0) : (Ye0) × (Int) := ((r.2.1.1, r.2.1.2.1, r.2.1.2.2.1, r.2.1.2.2.2.1, r.2.1.2.2.2.2.1, (e5 r.2.1).1, (e5 r.2.1).2.1, (e5 r.2.1).2.2.1, (e5 r.2.1).2.2.2.1, (e5 r.2.1).2.2.2.2.1, r.2.2.1.1, r.2.2.1.2, r.2.2.2.1.1, r.2.2.2.1.2, r.2.2.2.2.1.1, r.2.2.2.2.1.2, (e5 r).1.1, (e5 r).1.2), r.1.2.2.1)
def back_b11_0 (c : Ye0) (w : Int) : St RT den := ⟨((.ref 0 0) :: .q :: (ii w) :: (qs 54 [])), [(.box true [(ii c.1), (ii c.2.1), (ii c.2.2.1), (ii c.2.2.2.1), (.os 1 c.2.2.2.2.1), (ii (e5 c).1), (ii (e5 c).2.1), (.os 2 (e5 c).2.2.1), (.os 3 (e5 c).2.2.2.1), (.os 4 (e5 c).2.2.2.2.1)]), (.row true .impl_Entry (e10 c).1 (e10 c).2.1), (.row true .i64 (e10 c).2.2.1 (e10 c).2.2.2.1), (.row true .i64 (e10 c).2.2.2.2.1 (e5 (e10 c)).1), (.row true .i64 (e5 (e10 c)).2.1 (e5 (e10 c)).2.2)]⟩
def Bk_b11_0 {ρ : Type} (fu : Nat) (c : Ye0) (k : Ex → St RT den → Option ρ) (w : Int) (go : (Int) → Option ρ) : Option ρ := F_impl_Node_agree_M_3_B0 fu c.1 c.2.1 c.2.2.1 c.2.2.2.1 c.2.2.2.2.1 (e5 c).1 (e5 c).2.1 (e5 c).2.2.1 (e5 c).2.2.2.1 (e5 c).2.2.2.2.1 (e10 c).1 (e10 c).2.1 (e10 c).2.2.1 (e10 c).2.2.2.1 (e10 c).2.2.2.2.1 (e5 (e10 c)).1 (e5 (e10 c)).2.1 (e5 (e10 c)).2.2 (fun a0 => k .ret ⟨(qs 57 []), [(.box true [(ii c.1), (ii c.2.1), (ii c.2.2.1), (ii c.2.2.2.1), (.os 1 c.2.2.2.2.1), (ii (e5 c).1), (ii a0), (.os 2 (e5 c).2.2.1), (.os 3 (e5 c).2.2.2.1), (.os 4 (e5 c).2.2.2.2.1)]), (.row true .impl_Entry (e10 c).1 (e10 c).2.1), (.row true .i64 (e10 c).2.2.1 (e10 c).2.2.2.1), (.row true .i64 (e10 c).2.2.2.2.1 (e5 (e10 c)).1), (.row true .i64 (e5 (e10 c)).2.1 (e5 (e10 c)).2.2)]⟩) (k (.exit 0) ⟨(qs 57 []), [(.box true [(ii c.1), (ii c.2.1), (ii c.2.2.1), (ii c.2.2.2.1), (.os 1 c.2.2.2.2.1), (ii (e5 c).1), (ii (e5 c).2.1), (.os 2 (e5 c).2.2.1), (.os 3 (e5 c).2.2.2.1), (.os 4 (e5 c).2.2.2.2.1)]), (.row true .impl_Entry (e10 c).1 (e10 c).2.1), (.row true .i64 (e10 c).2.2.1 (e10 c).2.2.2.1), (.row true .i64 (e10 c).2.2.2.2.1 (e5 (e10 c)).1), (.row true .i64 (e5 (e10 c)).2.1 (e5 (e10 c)).2.2)]⟩) w go
def lp_b11 (fu : Nat) : Lp RT den (Ye0) := ⟨fun b s k => match b with | 0 => handle ps_b11_0 os_b11_0 conv_b11_0 (Bk_b11_0 fu) fu s k | 2 => handle ps_b11_2 os_b11_2 conv_b11_2 (Bk_b11_2 fu) fu s k | _ => none, inl0⟩
def pso_b11 : List (Pat RT) := [.tup []]
def oso_b11 : List (OP RT) := [.box true [(.int .i64), (.int .i64), (.int .i64), (.int .i64), (.os 1), (.int .i64), (.int .i64), (.os 2), (.os 3), (.os 4)], .row true .impl_Entry, .row true .i64, .row true .i64, .row true .i64]
def conv_b11 (r : Raw den pso_b11 oso_b11) : Ye0 := (r.2.1.1, r.2.1.2.1, r.2.1.2.2.1, r.2.1.2.2.2.1, r.2.1.2.2.2.2.1, (e5 r.2.1).1, (e5 r.2.1).2.1, (e5 r.2.1).2.2.1, (e5 r.2.1).2.2.2.1, (e5 r.2.1).2.2.2.2.1, r.2.2.1.1, r.2.2.1.2, r.2.2.2.1.1, r.2.2.2.1.2, r.2.2.2.2.1.1, r.2.2.2.2.1.2, (e5 r).1.1, (e5 r).1.2)
def enc_b11 (y : Ye0) : D RT den × List (Ob RT den) := ((.tup []), [(.box true [(.int .i64 y.1), (.int .i64 y.2.1), (.int .i64 y.2.2.1), (.int .i64 y.2.2.2.1), (.os 1 y.2.2.2.2.1), (.int .i64 y.2.2.2.2.2.1), (.int .i64 y.2.2.2.2.2.2.1), (.os 2 y.2.2.2.2.2.2.2.1), (.os 3 y.2.2.2.2.2.2.2.2.1), (.os 4 y.2.2.2.2.2.2.2.2.2.1)]), (.row true .impl_Entry y.2.2.2.2.2.2.2.2.2.2.1 y.2.2.2.2.2.2.2.2.2.2.2.1), (.row true .i64 y.2.2.2.2.2.2.2.2.2.2.2.2.1 y.2.2.2.2.2.2.2.2.2.2.2.2.2.1), (.row true .i64 y.2.2.2.2.2.2.2.2.2.2.2.2.2.2.1 y.2.2.2.2.2.2.2.2.2.2.2.2.2.2.2.1), (.row true .i64 y.2.2.2.2.2.2.2.2.2.2.2.2.2.2.2.2.1 y.2.2.2.2.2.2.2.2.2.2.2.2.2.2.2.2.2)])
def out_b11 (d : D RT den) (os : List (Ob RT den)) : Option (Ye0) := (unSt pso_b11 oso_b11 ⟨[d], os⟩).bind fun v => some (conv_b11 v.1)
theorem out_b11_enc (d : D RT den) (os : List (Ob RT den)) (y : Ye0) (h : out_b11 d os = some y) : d = (enc_b11 y).1 ∧ os = (enc_b11 y).2 :=
 outM (conv := conv_b11) (enc := enc_b11) (fun raw => by kernel_rfl) h
theorem ev_b11 (fu : Nat) (b0_0 b0_1 b0_2 b0_3 : Int) (b0_4 : Nat) (b0_5 b0_6 : Int) (b0_7 b0_8 b0_9 rn1 : Nat) (rf1 : (Nat → S_impl_Entry)) (rn2 : Nat) (rf2 : (Nat → Int)) (rn3 : Nat) (rf3 : (Nat → Int)) (rn4 : Nat) (rf4 : (Nat → Int)) : evFunM E false (pc_b11 fu) msk_b11 (lp_b11 fu) out_b11 66 [(.ref 0 0)] [(.box true [(ii b0_0), (ii b0_1), (ii b0_2), (ii b0_3), (.os 1 b0_4), (ii b0_5), (ii b0_6), (.os 2 b0_7), (.os 3 b0_8), (.os 4 b0_9)]), (.row true .impl_Entry rn1 rf1), (.row true .i64 rn2 rf2), (.row true .i64 rn3 rf3), (.row true .i64 rn4 rf4)] = F_impl_Node_agree_M_3 fu b0_0 b0_1 b0_2 b0_3 b0_4 b0_5 b0_6 b0_7 b0_8 b0_9 rn1 rf1 rn2 rf2 rn3 rf3 rn4 rf4 := by kernel_rfl
noncomputable def body_b11 : Code := Try.f66.body.getD .skip
noncomputable def lc_b11_0 : Code := ((loops 0 body_b11).getD 0 (0, .skip)).2
theorem round_b11_0 (fu : Nat) : RoundOk E (pc_b11 fu) msk_b11 (lp_b11 fu) 0 lc_b11_0 back_b11_0 0 100000 5 (Bk_b11_0 fu) := fun it k c w => by kernel_rfl
theorem lpok_b11_0 (fu : Nat) : LpAt E (pc_b11 fu) msk_b11 (lp_b11 fu) 0 0 100000 0 lc_b11_0 :=
 handle_ok (ps := ps_b11_0) (os := os_b11_0) (conv := conv_b11_0) (B := Bk_b11_0 fu) (fu := fu) back_b11_0 (fun raw => by kernel_rfl) 5 (fun c w => by kernel_rfl) (round_b11_0 fu)
noncomputable def lc_b11_2 : Code := ((loops 0 body_b11).getD 1 (0, .skip)).2
theorem round_b11_2 (fu : Nat) : RoundOk E (pc_b11 fu) msk_b11 (lp_b11 fu) 2 lc_b11_2 back_b11_2 2 100002 5 (Bk_b11_2 fu) := fun it k c w => by kernel_rfl
theorem lpok_b11_2 (fu : Nat) : LpAt E (pc_b11 fu) msk_b11 (lp_b11 fu) 2 2 100002 2 lc_b11_2 :=
 handle_ok (ps := ps_b11_2) (os := os_b11_2) (conv := conv_b11_2) (B := Bk_b11_2 fu) (fu := fu) back_b11_2 (fun raw => by kernel_rfl) 5 (fun c w => by kernel_rfl) (round_b11_2 fu)
theorem lpok_b11 (fu : Nat) : LpOk E (pc_b11 fu) 0 msk_b11 (lp_b11 fu) (loops 0 body_b11) := lp_nil (loop_all 2 (by kernel_rfl) fun i hi => match i, hi with
 | 0, _ => by
  have h : (loops 0 body_b11).getD 0 (0, .skip) = (0, lc_b11_0) := by kernel_rfl
  rw [h]; exact lpok_b11_0 fu
 | 1, _ => by
  have h : (loops 0 body_b11).getD 1 (0, .skip) = (2, lc_b11_2) := by kernel_rfl
  rw [h]; exact lpok_b11_2 fu
 | i + 2, hi => absurd hi (by omega)) (by kernel_rfl)
def S_b11 (fu : Nat) (xs : List (D RT den)) (ins : List (Ob RT den)) : Option (OutX RT den) := match xs, ins with | [.ref 0 0], [.box true [.int .i64 a1000_0, .int .i64 a1001_0, .int .i64 a1002_0, .int .i64 a1003_0, .os 1 a1004_0, .int .i64 a1005_0, .int .i64 a1006_0, .os 2 a1007_0, .os 3 a1008_0, .os 4 a1009_0], .row true .impl_Entry rn1 rf1, .row true .i64 rn2 rf2, .row true .i64 rn3 rf3, .row true .i64 rn4 rf4] => some ⟨Ye0, F_impl_Node_agree_M_3 fu a1000_0 a1001_0 a1002_0 a1003_0 a1004_0 a1005_0 a1006_0 a1007_0 a1008_0 a1009_0 rn1 rf1 rn2 rf2 rn3 rf3 rn4 rf4, enc_b11⟩ | _, _ => none
theorem hpc_b11 (fu : Nat) : HpcOk E Try.prog (pcf_b11 fu) := by
 intro f xs o h
 unfold pcf_b11 at h
 split at h
 ·exact good_a7 fu xs o h
 ·exact good_a3 fu xs o h
 ·cases h
theorem goodv_b11 (fu : Nat) (b0_0 b0_1 b0_2 b0_3 : Int) (b0_4 : Nat) (b0_5 b0_6 : Int) (b0_7 b0_8 b0_9 rn1 : Nat) (rf1 : (Nat → S_impl_Entry)) (rn2 : Nat) (rf2 : (Nat → Int)) (rn3 : Nat) (rf3 : (Nat → Int)) (rn4 : Nat) (rf4 : (Nat → Int)) (y : Ye0) (hy : F_impl_Node_agree_M_3 fu b0_0 b0_1 b0_2 b0_3 b0_4 b0_5 b0_6 b0_7 b0_8 b0_9 rn1 rf1 rn2 rf2 rn3 rf3 rn4 rf4 = some y) : GoodX E Try.prog 66 [(.ref 0 0)] [(.box true [(ii b0_0), (ii b0_1), (ii b0_2), (ii b0_3), (.os 1 b0_4), (ii b0_5), (ii b0_6), (.os 2 b0_7), (.os 3 b0_8), (.os 4 b0_9)]), (.row true .impl_Entry rn1 rf1), (.row true .i64 rn2 rf2), (.row true .i64 rn3 rf3), (.row true .i64 rn4 rf4)] (enc_b11 y).1 (enc_b11 y).2 :=
 funM_good (ke := false) E_ok (pc_good (pc := pc_b11 fu) (hpc_b11 fu) hpx0) (fn := Try.f66) (by kernel_rfl) (by kernel_rfl) (by kernel_rfl) (lpok_b11 fu) (by kernel_rfl) (Nat.le_of_ble_eq_true (by kernel_rfl)) (fun d os hd => out_b11_enc d os _ hd) ((ev_b11 fu b0_0 b0_1 b0_2 b0_3 b0_4 b0_5 b0_6 b0_7 b0_8 b0_9 rn1 rf1 rn2 rf2 rn3 rf3 rn4 rf4).trans hy)
theorem good_b11 (fu : Nat) : GoodSX E Try.prog 66 (S_b11 fu) := by
 intro xs ins o h y hy
 unfold S_b11 at h
 split at h
 ·rename_i a1000_0 a1001_0 a1002_0 a1003_0 a1004_0 a1005_0 a1006_0 a1007_0 a1008_0 a1009_0 rn1 rf1 rn2 rf2 rn3 rf3 rn4 rf4
  cases h
  exact goodv_b11 fu a1000_0 a1001_0 a1002_0 a1003_0 a1004_0 a1005_0 a1006_0 a1007_0 a1008_0 a1009_0 rn1 rf1 rn2 rf2 rn3 rf3 rn4 rf4 y hy
 ·cases h
def F_impl_leadFault (fu : Nat) (n_0 : S_impl_Node) : Option (Int) :=
 ((F_impl_NodeFault fu n_0).bind fun y375 => (((bif (y375 == 0) then (some (n_0.Role != 2)) else (some false)) : Option Bool).bind fun m376 => (bif m376 then (some 10) else (some y375))))
def pcf_b12 (fu f : Nat) (xs : List (D RT den)) : Option (Out RT den) := match f with | 19 => S_a29 fu xs | _ => none
def pc_b12 (fu : Nat) : Pc RT den := ⟨pcf_b12 fu, fun _ => false, fun _ => false, pcd0, pcd0, pcx0⟩
def msk_b12 (b : Nat) : List Nat := match b with | 200002 => [12] | _ => []
def lp_b12 (fu : Nat) : Lp RT den (Int) := ⟨fun b s k => none, inl0⟩
theorem ev_b12 (fu : Nat) (n_0 : S_impl_Node) : evFun E (pc_b12 fu) msk_b12 (lp_b12 fu) out_i64 31 [(.agg [(ii n_0.Id), (ii n_0.Peers), (ii n_0.Term), (ii n_0.Voted), (.rs n_0.Log.z .impl_Entry n_0.Log.n n_0.Log.f), (ii n_0.Role), (ii n_0.Commit), (.rs n_0.Votes.z .i64 n_0.Votes.n n_0.Votes.f), (.rs n_0.Next.z .i64 n_0.Next.n n_0.Next.f), (.rs n_0.Match.z .i64 n_0.Match.n n_0.Match.f)])] = F_impl_leadFault fu n_0 := by kernel_rfl
noncomputable def body_b12 : Code := Try.f31.body.getD .skip
theorem lpok_b12 (fu : Nat) : LpOk E (pc_b12 fu) 0 msk_b12 (lp_b12 fu) (loops 0 body_b12) := lp_nil (loop_nil (by kernel_rfl)) (by kernel_rfl)
def S_b12 (fu : Nat) (xs : List (D RT den)) : Option (Out RT den) := match xs with | [.agg [.int .i64 a0_1, .int .i64 a0_2, .int .i64 a0_3, .int .i64 a0_4, .rs za0_5 .impl_Entry na0_5 fa0_5, .int .i64 a0_6, .int .i64 a0_7, .rs za0_8 .i64 na0_8 fa0_8, .rs za0_9 .i64 na0_9 fa0_9, .rs za0_10 .i64 na0_10 fa0_10]] => some ⟨Int, F_impl_leadFault fu (⟨a0_1, a0_2, a0_3, a0_4, (⟨za0_5, na0_5, fa0_5⟩ : (Sl S_impl_Entry)), a0_6, a0_7, (⟨za0_8, na0_8, fa0_8⟩ : (Sl Int)), (⟨za0_9, na0_9, fa0_9⟩ : (Sl Int)), (⟨za0_10, na0_10, fa0_10⟩ : (Sl Int))⟩ : S_impl_Node), enc_i64, fun _ => true⟩ | _ => none
theorem hpc_b12 (fu : Nat) : HpcOk E Try.prog (pcf_b12 fu) := by
 intro f xs o h
 unfold pcf_b12 at h
 split at h
 ·exact good_a29 fu xs o h
 ·cases h
theorem goodv_b12 (fu : Nat) (n_0 : S_impl_Node) (y : Int) (hy : F_impl_leadFault fu n_0 = some y) : Good E Try.prog 31 [(.agg [(ii n_0.Id), (ii n_0.Peers), (ii n_0.Term), (ii n_0.Voted), (.rs n_0.Log.z .impl_Entry n_0.Log.n n_0.Log.f), (ii n_0.Role), (ii n_0.Commit), (.rs n_0.Votes.z .i64 n_0.Votes.n n_0.Votes.f), (.rs n_0.Next.z .i64 n_0.Next.n n_0.Next.f), (.rs n_0.Match.z .i64 n_0.Match.n n_0.Match.f)])] (enc_i64 y) :=
 fun_good E_ok (pc_good (pc := pc_b12 fu) (hpc_b12 fu) hpx0) (fn := Try.f31) (by kernel_rfl) (by kernel_rfl) (by kernel_rfl) (lpok_b12 fu) (fun d hd => out_i64_enc d _ hd) ((ev_b12 fu n_0).trans hy)
theorem good_b12 (fu : Nat) : GoodS E Try.prog 31 (S_b12 fu) := by
 intro xs o h y hy
 unfold S_b12 at h
 split at h
 ·rename_i a0_1 a0_2 a0_3 a0_4 za0_5 na0_5 fa0_5 a0_6 a0_7 za0_8 na0_8 fa0_8 za0_9 na0_9 fa0_9 za0_10 na0_10 fa0_10
  cases h
  exact goodv_b12 fu (⟨a0_1, a0_2, a0_3, a0_4, (⟨za0_5, na0_5, fa0_5⟩ : (Sl S_impl_Entry)), a0_6, a0_7, (⟨za0_8, na0_8, fa0_8⟩ : (Sl Int)), (⟨za0_9, na0_9, fa0_9⟩ : (Sl Int)), (⟨za0_10, na0_10, fa0_10⟩ : (Sl Int))⟩ : S_impl_Node) y hy
 ·cases h
def F_impl_AskNode_U (fu : Nat) (n_0 : S_impl_Node) (x_1 : S_impl_Entry) : Option (Ye2) :=
 ((F_impl_leadFault fu n_0).bind fun y360 => (bif (y360 == 0) then ((F_impl_EntryFault fu x_1).bind fun y361 => (bif (y361 != 0) then (bif (decide ((0 : Nat) = 0) && true) then
  (some (y361, 0, 0, 0, 0, 0, 0, 0, 0, 0, 0, 0, 0, (fun _ => dflt .impl_Entry), 0, (fun _ => dflt .i64), 0, (fun _ => dflt .i64), 0, (fun _ => dflt .i64), 0, (fun _ => dflt .impl_Mail))) else
  none) else (bif (x_1.Term != n_0.Term) then (bif (decide ((0 : Nat) = 0) && true) then (some (1, 0, 0, 0, 0, 0, 0, 0, 0, 0, 0, 0, 0, (fun _ => dflt .impl_Entry), 0, (fun _ =>
  dflt .i64), 0, (fun _ => dflt .i64), 0, (fun _ => dflt .i64), 0, (fun _ => dflt .impl_Mail))) else none) else (bif (((n_0.Log.n : Nat) : Int) == 40) then (bif (decide ((0 : Nat) = 0) &&
  true) then (some (2, 0, 0, 0, 0, 0, 0, 0, 0, 0, 0, 0, 0, (fun _ => dflt .impl_Entry), 0, (fun _ => dflt .i64), 0, (fun _ => dflt .i64), 0, (fun _ => dflt .i64), 0, (fun _ =>
  dflt .impl_Mail))) else none) else ((F_impl_Node_copied_H fu n_0).bind fun y362 => (bif (decide ((y362.Log.n + 1) ≤ 9223372036854775807) && decide ((y362.Log.n + 1) * 72 ≤ 140737488355328)) then
  ((F_impl_size_impl_Entry fu (⟨none, (y362.Log.n + 1), (fun i => if i < y362.Log.n then (y362.Log.f i) else ((fun i => ([x_1] : List (S_impl_Entry)).getD i (dflt .impl_Entry)) (i - y362.Log.n)))⟩ : (Sl S_impl_Entry))).bind fun y363 =>
  ((F_impl_size_impl_Entry fu (⟨none, (y362.Log.n + 1), (fun i => if i < y362.Log.n then (y362.Log.f i) else ((fun i => ([x_1] : List (S_impl_Entry)).getD i (dflt .impl_Entry)) (i - y362.Log.n)))⟩ : (Sl S_impl_Entry))).bind fun y364 =>
  ((bif (decide (0 ≤ n_0.Id) && decide ((Int.toNat n_0.Id) < y362.Match.n)) then some () else none : Option Unit).bind fun _ => ((bif (decide (0 ≤ n_0.Id) && decide ((Int.toNat n_0.Id) < y362.Next.n)) then
  some () else none : Option Unit).bind fun _ => ((F_impl_Node_agree_M_3 fu y362.Id y362.Peers y362.Term y362.Voted (y362.Log.n + 1) y362.Role y362.Commit y362.Votes.n y362.Next.n y362.Match.n (y362.Log.n + 1) (fun i =>
  if i < y362.Log.n then (y362.Log.f i) else ((fun i => ([x_1] : List (S_impl_Entry)).getD i (dflt .impl_Entry)) (i - y362.Log.n))) y362.Votes.n y362.Votes.f y362.Next.n (fun j =>
  if j = (Int.toNat n_0.Id) then (IntKind.wrap .i64 (y364 + 1)) else y362.Next.f j) y362.Match.n (fun j => if j = (Int.toNat n_0.Id) then y363 else y362.Match.f j)).bind fun y370 =>
  (bif (decide ((0 : Nat) = 0) && true) then (some (0, y370.1, y370.2.1, y370.2.2.1, y370.2.2.2.1, y370.2.2.2.2.1, y370.2.2.2.2.2.1, y370.2.2.2.2.2.2.1, y370.2.2.2.2.2.2.2.1,
  y370.2.2.2.2.2.2.2.2.1, y370.2.2.2.2.2.2.2.2.2.1, 0, y370.2.2.2.2.1, y370.2.2.2.2.2.2.2.2.2.2.2.1, y370.2.2.2.2.2.2.2.1, y370.2.2.2.2.2.2.2.2.2.2.2.2.2.1,
  y370.2.2.2.2.2.2.2.2.1, y370.2.2.2.2.2.2.2.2.2.2.2.2.2.2.2.1, y370.2.2.2.2.2.2.2.2.2.1, y370.2.2.2.2.2.2.2.2.2.2.2.2.2.2.2.2.2, 0, (fun _ => dflt .impl_Mail))) else none)))))) else
  none)))))) else (bif (y360 != 0) then (bif (decide ((0 : Nat) = 0) && true) then (some (y360, 0, 0, 0, 0, 0, 0, 0, 0, 0, 0, 0, 0, (fun _ => dflt .impl_Entry), 0, (fun _ => dflt .i64),
  0, (fun _ => dflt .i64), 0, (fun _ => dflt .i64), 0, (fun _ => dflt .impl_Mail))) else none) else (bif (x_1.Term != n_0.Term) then (bif (decide ((0 : Nat) = 0) && true) then
  (some (1, 0, 0, 0, 0, 0, 0, 0, 0, 0, 0, 0, 0, (fun _ => dflt .impl_Entry), 0, (fun _ => dflt .i64), 0, (fun _ => dflt .i64), 0, (fun _ => dflt .i64), 0, (fun _ => dflt .impl_Mail))) else
  none) else (bif (((n_0.Log.n : Nat) : Int) == 40) then (bif (decide ((0 : Nat) = 0) && true) then (some (2, 0, 0, 0, 0, 0, 0, 0, 0, 0, 0, 0, 0, (fun _ => dflt .impl_Entry), 0,
  (fun _ => dflt .i64), 0, (fun _ => dflt .i64), 0, (fun _ => dflt .i64), 0, (fun _ => dflt .impl_Mail))) else none) else ((F_impl_Node_copied_H fu n_0).bind fun y371 => (bif (decide ((y371.Log.n + 1) ≤ 9223372036854775807) &&
  decide ((y371.Log.n + 1) * 72 ≤ 140737488355328)) then ((F_impl_size_impl_Entry fu (⟨none, (y371.Log.n + 1), (fun i => if i < y371.Log.n then (y371.Log.f i) else ((fun i =>
  ([x_1] : List (S_impl_Entry)).getD i (dflt .impl_Entry)) (i - y371.Log.n)))⟩ : (Sl S_impl_Entry))).bind fun y372 => ((F_impl_size_impl_Entry fu (⟨none, (y371.Log.n + 1), (fun i =>
  if i < y371.Log.n then (y371.Log.f i) else ((fun i => ([x_1] : List (S_impl_Entry)).getD i (dflt .impl_Entry)) (i - y371.Log.n)))⟩ : (Sl S_impl_Entry))).bind fun y373 => ((bif (decide (0 ≤ n_0.Id) &&
  decide ((Int.toNat n_0.Id) < y371.Match.n)) then some () else none : Option Unit).bind fun _ => ((bif (decide (0 ≤ n_0.Id) && decide ((Int.toNat n_0.Id) < y371.Next.n)) then
  some () else none : Option Unit).bind fun _ => ((F_impl_Node_agree_M_3 fu y371.Id y371.Peers y371.Term y371.Voted (y371.Log.n + 1) y371.Role y371.Commit y371.Votes.n y371.Next.n y371.Match.n (y371.Log.n + 1) (fun i =>
  if i < y371.Log.n then (y371.Log.f i) else ((fun i => ([x_1] : List (S_impl_Entry)).getD i (dflt .impl_Entry)) (i - y371.Log.n))) y371.Votes.n y371.Votes.f y371.Next.n (fun j =>
  if j = (Int.toNat n_0.Id) then (IntKind.wrap .i64 (y373 + 1)) else y371.Next.f j) y371.Match.n (fun j => if j = (Int.toNat n_0.Id) then y372 else y371.Match.f j)).bind fun y374 =>
  (bif (decide ((0 : Nat) = 0) && true) then (some (0, y374.1, y374.2.1, y374.2.2.1, y374.2.2.2.1, y374.2.2.2.2.1, y374.2.2.2.2.2.1, y374.2.2.2.2.2.2.1, y374.2.2.2.2.2.2.2.1,
  y374.2.2.2.2.2.2.2.2.1, y374.2.2.2.2.2.2.2.2.2.1, 0, y374.2.2.2.2.1, y374.2.2.2.2.2.2.2.2.2.2.2.1, y374.2.2.2.2.2.2.2.1, y374.2.2.2.2.2.2.2.2.2.2.2.2.2.1,
  y374.2.2.2.2.2.2.2.2.1, y374.2.2.2.2.2.2.2.2.2.2.2.2.2.2.2.1, y374.2.2.2.2.2.2.2.2.2.1, y374.2.2.2.2.2.2.2.2.2.2.2.2.2.2.2.2.2, 0, (fun _ => dflt .impl_Mail))) else none)))))) else
  none)))))))
def pcf_b13 (fu f : Nat) (xs : List (D RT den)) : Option (Out RT den) := match f with | 31 => S_b12 fu xs | 37 => S_a7 fu xs | 65 => S_a19 fu xs | _ => none
def pcx_b13 (fu f : Nat) (xs : List (D RT den)) (ins : List (Ob RT den)) : Option (OutX RT den) := match f with | 32 => S_a2 fu xs ins | 66 => S_b11 fu xs ins | _ => none
def pcd_b13 : Nat → Bool := fun _ => false
def pc_b13 (fu : Nat) : Pc RT den := ⟨pcf_b13 fu, fun f => match f with | 32 => true | 66 => true | _ => false, fun f => match f with | 66 => true | _ => false, pcd_b13, pcd0, pcx_b13 fu⟩
def msk_b13 (b : Nat) : List Nat := match b with | 500012 => [1] | _ => []
def lp_b13 (fu : Nat) : Lp RT den (Ye2) := ⟨fun b s k => none, inl0⟩
def pso_b13 : List (Pat RT) := [.agg [(.int .i64), (.int .i64), (.int .i64), (.int .i64), (.int .i64), (.os 0), (.int .i64), (.int .i64), (.os 1), (.os 2), (.os 3), (.os 4)]]
def oso_b13 : List (OP RT) := [.row false .impl_Entry, .row false .i64, .row false .i64, .row false .i64, .deep false .impl_Mail]
def conv_b13 (r : Raw den pso_b13 oso_b13) : Ye2 := (r.1.1.1, r.1.1.2.1, r.1.1.2.2.1, r.1.1.2.2.2.1, r.1.1.2.2.2.2.1, (e5 r.1.1).1, (e5 r.1.1).2.1, (e5 r.1.1).2.2.1, (e5 r.1.1).2.2.2.1, (e5 r.1.1).2.2.2.2.1, (e10 r.1.1).1, (e10 r.1.1).2.1, r.2.1.1, r.2.1.2, r.2.2.1.1, r.2.2.1.2, r.2.2.2.1.1, r.2.2.2.1.2, r.2.2.2.2.1.1, r.2.2.2.2.1.2, (e5 r).1.1, (e5 r).1.2.2)
def enc_b13 (y : Ye2) : D RT den × List (Ob RT den) := ((.agg [(.int .i64 y.1), (.int .i64 y.2.1), (.int .i64 y.2.2.1), (.int .i64 y.2.2.2.1), (.int .i64 y.2.2.2.2.1), (.os 0 y.2.2.2.2.2.1), (.int .i64 y.2.2.2.2.2.2.1), (.int .i64 y.2.2.2.2.2.2.2.1), (.os 1 y.2.2.2.2.2.2.2.2.1), (.os 2 y.2.2.2.2.2.2.2.2.2.1), (.os 3 y.2.2.2.2.2.2.2.2.2.2.1), (.os 4 y.2.2.2.2.2.2.2.2.2.2.2.1)]), [(.row false .impl_Entry y.2.2.2.2.2.2.2.2.2.2.2.2.1 y.2.2.2.2.2.2.2.2.2.2.2.2.2.1), (.row false .i64 y.2.2.2.2.2.2.2.2.2.2.2.2.2.2.1 y.2.2.2.2.2.2.2.2.2.2.2.2.2.2.2.1), (.row false .i64 y.2.2.2.2.2.2.2.2.2.2.2.2.2.2.2.2.1 y.2.2.2.2.2.2.2.2.2.2.2.2.2.2.2.2.2.1), (.row false .i64 y.2.2.2.2.2.2.2.2.2.2.2.2.2.2.2.2.2.2.1 y.2.2.2.2.2.2.2.2.2.2.2.2.2.2.2.2.2.2.2.1), (.deep false .impl_Mail y.2.2.2.2.2.2.2.2.2.2.2.2.2.2.2.2.2.2.2.2.1 y.2.2.2.2.2.2.2.2.2.2.2.2.2.2.2.2.2.2.2.2.1 y.2.2.2.2.2.2.2.2.2.2.2.2.2.2.2.2.2.2.2.2.2)])
def chk_b13 (r : Raw den pso_b13 oso_b13) : Bool := (decide (r.2.2.2.2.2.1.2.1 = r.2.2.2.2.2.1.1) && true)
def raw_b13 (r : Raw den pso_b13 oso_b13) : St RT den := ⟨[(.agg [(.int .i64 r.1.1.1), (.int .i64 r.1.1.2.1), (.int .i64 r.1.1.2.2.1), (.int .i64 r.1.1.2.2.2.1), (.int .i64 r.1.1.2.2.2.2.1), (.os 0 r.1.1.2.2.2.2.2.1), (.int .i64 r.1.1.2.2.2.2.2.2.1), (.int .i64 r.1.1.2.2.2.2.2.2.2.1), (.os 1 r.1.1.2.2.2.2.2.2.2.2.1), (.os 2 r.1.1.2.2.2.2.2.2.2.2.2.1), (.os 3 r.1.1.2.2.2.2.2.2.2.2.2.2.1), (.os 4 r.1.1.2.2.2.2.2.2.2.2.2.2.2.1)])], [(.row false .impl_Entry r.2.1.1 r.2.1.2), (.row false .i64 r.2.2.1.1 r.2.2.1.2), (.row false .i64 r.2.2.2.1.1 r.2.2.2.1.2), (.row false .i64 r.2.2.2.2.1.1 r.2.2.2.2.1.2), (.deep false .impl_Mail r.2.2.2.2.2.1.1 r.2.2.2.2.2.1.2.1 r.2.2.2.2.2.1.2.2)]⟩
theorem chkd_b13 (r : Raw den pso_b13 oso_b13) (h : chk_b13 r = true) : raw_b13 r = ⟨[(enc_b13 (conv_b13 r)).1], (enc_b13 (conv_b13 r)).2⟩ := by
 simp only [chk_b13, Bool.and_eq_true, decide_eq_true_eq, and_true] at h
 simp only [raw_b13, enc_b13, conv_b13, h, e5, e10, e20, e40]
def out_b13 (d : D RT den) (os : List (Ob RT den)) : Option (Ye2) := (unSt pso_b13 oso_b13 ⟨[d], os⟩).bind fun v => bif chk_b13 v.1 then some (conv_b13 v.1) else none
theorem out_b13_enc (d : D RT den) (os : List (Ob RT den)) (y : Ye2) (h : out_b13 d os = some y) : d = (enc_b13 y).1 ∧ os = (enc_b13 y).2 :=
 outU (conv := conv_b13) (enc := enc_b13) (chk := chk_b13) (fun raw h => Eq.trans (by kernel_rfl) (chkd_b13 raw h)) h
theorem ev_b13 (fu : Nat) (n_0 : S_impl_Node) (x_1 : S_impl_Entry) : evFunU E (pc_b13 fu) msk_b13 (lp_b13 fu) out_b13 20 [(.agg [(ii n_0.Id), (ii n_0.Peers), (ii n_0.Term), (ii n_0.Voted), (.rs n_0.Log.z .impl_Entry n_0.Log.n n_0.Log.f), (ii n_0.Role), (ii n_0.Commit), (.rs n_0.Votes.z .i64 n_0.Votes.n n_0.Votes.f), (.rs n_0.Next.z .i64 n_0.Next.n n_0.Next.f), (.rs n_0.Match.z .i64 n_0.Match.n n_0.Match.f)]), (.agg [(ii x_1.Term), (ii x_1.Client), (ii x_1.Seq), (ii x_1.Cmd.Kind), (ii x_1.Cmd.Expect), (ii x_1.Cmd.Name), (ii x_1.Cmd.Addr), (ii x_1.Cmd.Number), (ii x_1.Cmd.Proto)])] [] = F_impl_AskNode_U fu n_0 x_1 := by kernel_rfl
noncomputable def body_b13 : Code := Try.f20.body.getD .skip
theorem lpok_b13 (fu : Nat) : LpOk E (pc_b13 fu) 0 msk_b13 (lp_b13 fu) (loops 0 body_b13) := lp_nil (loop_nil (by kernel_rfl)) (by kernel_rfl)
def S_b13 (fu : Nat) (xs : List (D RT den)) (ins : List (Ob RT den)) : Option (OutX RT den) := match xs, ins with | [.agg [.int .i64 a0_1, .int .i64 a0_2, .int .i64 a0_3, .int .i64 a0_4, .rs za0_5 .impl_Entry na0_5 fa0_5, .int .i64 a0_6, .int .i64 a0_7, .rs za0_8 .i64 na0_8 fa0_8, .rs za0_9 .i64 na0_9 fa0_9, .rs za0_10 .i64 na0_10 fa0_10], .agg [.int .i64 a1_1, .int .i64 a1_2, .int .i64 a1_3, .int .i64 a1_5, .int .i64 a1_6, .int .i64 a1_7, .int .i64 a1_8, .int .i64 a1_9, .int .i64 a1_10]], [] => some ⟨Ye2, F_impl_AskNode_U fu (⟨a0_1, a0_2, a0_3, a0_4, (⟨za0_5, na0_5, fa0_5⟩ : (Sl S_impl_Entry)), a0_6, a0_7, (⟨za0_8, na0_8, fa0_8⟩ : (Sl Int)), (⟨za0_9, na0_9, fa0_9⟩ : (Sl Int)), (⟨za0_10, na0_10, fa0_10⟩ : (Sl Int))⟩ : S_impl_Node) (⟨a1_1, a1_2, a1_3, (⟨a1_5, a1_6, a1_7, a1_8, a1_9, a1_10⟩ : S_impl_Cmd)⟩ : S_impl_Entry), enc_b13⟩ | _, _ => none
theorem hpc_b13 (fu : Nat) : HpcOk E Try.prog (pcf_b13 fu) := by
 intro f xs o h
 unfold pcf_b13 at h
 split at h
 ·exact good_b12 fu xs o h
 ·exact good_a7 fu xs o h
 ·exact good_a19 fu xs o h
 ·cases h
theorem hpx_b13 (fu : Nat) : HpxOk E Try.prog pcd_b13 (pcx_b13 fu) := by
 intro f xs ins o h
 unfold pcx_b13 at h
 split at h
 ·exact good_a2 fu xs ins o h
 ·exact good_b11 fu xs ins o h
 ·cases h
theorem goodv_b13 (fu : Nat) (n_0 : S_impl_Node) (x_1 : S_impl_Entry) (y : Ye2) (hy : F_impl_AskNode_U fu n_0 x_1 = some y) : GoodD E Try.prog 20 [(.agg [(ii n_0.Id), (ii n_0.Peers), (ii n_0.Term), (ii n_0.Voted), (.rs n_0.Log.z .impl_Entry n_0.Log.n n_0.Log.f), (ii n_0.Role), (ii n_0.Commit), (.rs n_0.Votes.z .i64 n_0.Votes.n n_0.Votes.f), (.rs n_0.Next.z .i64 n_0.Next.n n_0.Next.f), (.rs n_0.Match.z .i64 n_0.Match.n n_0.Match.f)]), (.agg [(ii x_1.Term), (ii x_1.Client), (ii x_1.Seq), (ii x_1.Cmd.Kind), (ii x_1.Cmd.Expect), (ii x_1.Cmd.Name), (ii x_1.Cmd.Addr), (ii x_1.Cmd.Number), (ii x_1.Cmd.Proto)])] [] (enc_b13 y).1 (enc_b13 y).2 :=
 funU_good E_ok (pc_good (pc := pc_b13 fu) (hpc_b13 fu) (hpx_b13 fu)) (fn := Try.f20) (by kernel_rfl) (by kernel_rfl) (by kernel_rfl) (lpok_b13 fu) (by kernel_rfl) (Nat.le_of_ble_eq_true (by kernel_rfl)) (Fulls.get 0 (And.intro (Nat.le_refl _) trivial)) (fun d os hd => out_b13_enc d os _ hd) ((ev_b13 fu n_0 x_1).trans hy)
theorem good_b13 (fu : Nat) : GoodSD E Try.prog 20 (S_b13 fu) := by
 intro xs ins o h y hy
 unfold S_b13 at h
 split at h
 ·rename_i a0_1 a0_2 a0_3 a0_4 za0_5 na0_5 fa0_5 a0_6 a0_7 za0_8 na0_8 fa0_8 za0_9 na0_9 fa0_9 za0_10 na0_10 fa0_10 a1_1 a1_2 a1_3 a1_5 a1_6 a1_7 a1_8 a1_9 a1_10
  cases h
  exact goodv_b13 fu (⟨a0_1, a0_2, a0_3, a0_4, (⟨za0_5, na0_5, fa0_5⟩ : (Sl S_impl_Entry)), a0_6, a0_7, (⟨za0_8, na0_8, fa0_8⟩ : (Sl Int)), (⟨za0_9, na0_9, fa0_9⟩ : (Sl Int)), (⟨za0_10, na0_10, fa0_10⟩ : (Sl Int))⟩ : S_impl_Node) (⟨a1_1, a1_2, a1_3, (⟨a1_5, a1_6, a1_7, a1_8, a1_9, a1_10⟩ : S_impl_Cmd)⟩ : S_impl_Entry) y hy
 ·cases h
end Go.Proofs.Ytjdgfkmiaikegaa.Pe
