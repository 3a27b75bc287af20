/- The functions' evaluated forms, each a proved summary. Conditions: none. -/
import Derived.Test.YtmnbmponjhglcaaPcF5
namespace Go.Proofs.Ytmnbmponjhglcaa.Pc
open Go Go.RowKit Go.Proofs Vm
set_option linter.unusedVariables false
set_option linter.unusedSimpArgs false
set_option maxRecDepth 100000
/-! laws.markEntriesResult -/
def F_laws_markEntriesResult_L (fu : Nat) (a_0_0 : Int) (a_0_1 : Nat) (k_1_2 : Int) (rn0 : Nat) (rf0 : (Nat → S_impl_Entry)) : Option (Int × (Nat × (Nat → S_impl_Entry))) :=
  ((F_laws_markEntryS_L fu a_0_1 k_1_2 rn0 rf0).bind fun y401 => (some (y401.1, (y401.2.1, y401.2.2))))
def pcx_b30 (fu : Nat) (f : Nat) (xs : List (D RT den)) (ins : List (Ob RT den)) : Option (OutX RT den) := match f with | 59 => S_b29 fu xs ins | _ => none
def pcd_b30 : Nat → Bool := fun _ => false
def pc_b30 (fu : Nat) : Pc RT den := ⟨pcf0, fun f => match f with | 59 => true | _ => false, fun f => match f with | 59 => true | _ => false, pcd_b30, pcx_b30 fu⟩
def msk_b30 (b : Nat) : List Nat := []
def lp_b30 (fu : Nat) : Lp RT den (Int × (Nat × (Nat → S_impl_Entry))) := fun b s k => none
def out_b30 (d : D RT den) (os : List (Ob RT den)) : Option (Int × (Nat × (Nat → S_impl_Entry))) := match d, os with | .int .i64 a0_0, [.row true .impl_Entry n0 f0] => some (a0_0, (n0, f0)) | _, _ => none
def enc_b30 (y : Int × (Nat × (Nat → S_impl_Entry))) : D RT den × List (Ob RT den) := ((.int .i64 y.1), [(.row true .impl_Entry y.2.1 y.2.2)])
theorem out_b30_enc (d : D RT den) (os : List (Ob RT den)) (y : Int × (Nat × (Nat → S_impl_Entry))) (h : out_b30 d os = some y) : (unh 1 d).1 = (enc_b30 y).1 ∧ os ++ (unh 1 d).2 = (enc_b30 y).2 := by
  unfold out_b30 at h
  split at h
  · cases h; exact ⟨rfl, rfl⟩
  · cases h
theorem ev_b30 (fu : Nat) (a_0_0 : Int) (a_0_1 : Nat) (k_1_2 : Int) (rn0 : Nat) (rf0 : (Nat → S_impl_Entry)) : evFunX E false (pc_b30 fu) msk_b30 (lp_b30 fu) out_b30 14 [(.agg [(.int .i64 a_0_0), (.os 0 a_0_1)]), (.int .i64 k_1_2)] [(.row true .impl_Entry rn0 rf0)] = F_laws_markEntriesResult_L fu a_0_0 a_0_1 k_1_2 rn0 rf0 := by kernel_rfl
noncomputable def body_b30 : Code := Try.f14.body.getD .skip
theorem lpok_b30 (fu : Nat) : LpOk E (pc_b30 fu) msk_b30 (lp_b30 fu) (loops 0 body_b30) := by
  have h : loops 0 body_b30 = [] := by kernel_rfl
  rw [h]; intro p hp; cases hp
def S_b30 (fu : Nat) (xs : List (D RT den)) (ins : List (Ob RT den)) : Option (OutX RT den) := match xs, ins with | [.agg [.int .i64 a0_0, .os 0 a0_1], .int .i64 a1_0], [.row true .impl_Entry rn0 rf0] => some ⟨Int × (Nat × (Nat → S_impl_Entry)), F_laws_markEntriesResult_L fu a0_0 a0_1 a1_0 rn0 rf0, enc_b30⟩ | _, _ => none
theorem hpx_b30 (fu : Nat) : ∀ f xs ins o, pcx_b30 fu f xs ins = some o → ∀ y, o.x = some y → GoodXD E Try.prog (pcd_b30 f) f xs ins (o.g y).1 (o.g y).2 := by
  intro f xs ins o h
  unfold pcx_b30 at h
  split at h
  · exact good_b29 fu xs ins o h
  · cases h
theorem goodv_b30 (fu : Nat) (a_0_0 : Int) (a_0_1 : Nat) (k_1_2 : Int) (rn0 : Nat) (rf0 : (Nat → S_impl_Entry)) (y : Int × (Nat × (Nat → S_impl_Entry))) (hy : F_laws_markEntriesResult_L fu a_0_0 a_0_1 k_1_2 rn0 rf0 = some y) : GoodX E Try.prog 14 [(.agg [(.int .i64 a_0_0), (.os 0 a_0_1)]), (.int .i64 k_1_2)] [(.row true .impl_Entry rn0 rf0)] (enc_b30 y).1 (enc_b30 y).2 :=
  funX_good (ke := false) E_ok (pc_good (pc := pc_b30 fu) hpc0 (hpx_b30 fu)) (fn := Try.f14) (c := body_b30) (out := out_b30) (y := y) (by kernel_rfl) (by kernel_rfl) (by kernel_rfl) (lpok_b30 fu) (by kernel_rfl) (Nat.le_refl _) (fun d os hd => out_b30_enc d os _ hd) ((ev_b30 fu a_0_0 a_0_1 k_1_2 rn0 rf0).trans hy)
theorem good_b30 (fu : Nat) : ∀ xs ins o, S_b30 fu xs ins = some o → ∀ y, o.x = some y → GoodX E Try.prog 14 xs ins (o.g y).1 (o.g y).2 := by
  intro xs ins o h y hy
  unfold S_b30 at h
  split at h
  · rename_i a0_0 a0_1 a1_0 rn0 rf0
    cases h
    exact goodv_b30 fu a0_0 a0_1 a1_0 rn0 rf0 y hy
  · cases h

/-! laws.szEntryS -/
def F_laws_szEntryS (fu : Nat) (a_0 : (Sl S_laws_Entry)) (left_1 : Int) : Option (Int) :=
  (bif (decide ((IntKind.wrap .i64 (left_1 - ((a_0.n : Nat) : Int))) < 0)) then (some (-1)) else (some (IntKind.wrap .i64 (left_1 - ((a_0.n : Nat) : Int)))))
def pc_b31 (fu : Nat) : Pc RT den := ⟨pcf0, fun _ => false, fun _ => false, pcd0, pcx0⟩
def msk_b31 (b : Nat) : List Nat := []
def lp_b31 (fu : Nat) : Lp RT den (Int) := fun b s k => none
theorem ev_b31 (fu : Nat) (a_0 : (Sl S_laws_Entry)) (left_1 : Int) : evFun E (pc_b31 fu) msk_b31 (lp_b31 fu) out_i64 156 [(.rs a_0.z .laws_Entry a_0.n a_0.f), (.int .i64 left_1)] = F_laws_szEntryS fu a_0 left_1 := by kernel_rfl
noncomputable def body_b31 : Code := Try.f156.body.getD .skip
theorem lpok_b31 (fu : Nat) : LpOk E (pc_b31 fu) msk_b31 (lp_b31 fu) (loops 0 body_b31) := by
  have h : loops 0 body_b31 = [] := by kernel_rfl
  rw [h]; intro p hp; cases hp
def S_b31 (fu : Nat) (xs : List (D RT den)) : Option (Out RT den) := match xs with | [.rs za0_0 .laws_Entry na0_0 fa0_0, .int .i64 a1_0] => some ⟨Int, F_laws_szEntryS fu (⟨za0_0, na0_0, fa0_0⟩ : (Sl S_laws_Entry)) a1_0, enc_i64, fun _ => true⟩ | _ => none
theorem goodv_b31 (fu : Nat) (a_0 : (Sl S_laws_Entry)) (left_1 : Int) (y : Int) (hy : F_laws_szEntryS fu a_0 left_1 = some y) : Good E Try.prog 156 [(.rs a_0.z .laws_Entry a_0.n a_0.f), (.int .i64 left_1)] (enc_i64 y) :=
  fun_good E_ok (pc_good (pc := pc_b31 fu) hpc0 hpx0) (fn := Try.f156) (c := body_b31) (out := out_i64) (y := y) (by kernel_rfl) (by kernel_rfl) (by kernel_rfl) (lpok_b31 fu) (fun d hd => out_i64_enc d _ hd) ((ev_b31 fu a_0 left_1).trans hy)
theorem good_b31 (fu : Nat) : ∀ xs o, S_b31 fu xs = some o → ∀ y, o.x = some y → Good E Try.prog 156 xs (o.g y) := by
  intro xs o h y hy
  unfold S_b31 at h
  split at h
  · rename_i za0_0 na0_0 fa0_0 a1_0
    cases h
    exact goodv_b31 fu (⟨za0_0, na0_0, fa0_0⟩ : (Sl S_laws_Entry)) a1_0 y hy
  · cases h

/-! laws.szInt64S -/
def F_laws_szInt64S (fu : Nat) (a_0 : (Sl Int)) (left_1 : Int) : Option (Int) :=
  (bif (decide ((IntKind.wrap .i64 (left_1 - ((a_0.n : Nat) : Int))) < 0)) then (some (-1)) else (some (IntKind.wrap .i64 (left_1 - ((a_0.n : Nat) : Int)))))
def pc_b32 (fu : Nat) : Pc RT den := ⟨pcf0, fun _ => false, fun _ => false, pcd0, pcx0⟩
def msk_b32 (b : Nat) : List Nat := []
def lp_b32 (fu : Nat) : Lp RT den (Int) := fun b s k => none
theorem ev_b32 (fu : Nat) (a_0 : (Sl Int)) (left_1 : Int) : evFun E (pc_b32 fu) msk_b32 (lp_b32 fu) out_i64 157 [(.rs a_0.z .i64 a_0.n a_0.f), (.int .i64 left_1)] = F_laws_szInt64S fu a_0 left_1 := by kernel_rfl
noncomputable def body_b32 : Code := Try.f157.body.getD .skip
theorem lpok_b32 (fu : Nat) : LpOk E (pc_b32 fu) msk_b32 (lp_b32 fu) (loops 0 body_b32) := by
  have h : loops 0 body_b32 = [] := by kernel_rfl
  rw [h]; intro p hp; cases hp
def S_b32 (fu : Nat) (xs : List (D RT den)) : Option (Out RT den) := match xs with | [.rs za0_0 .i64 na0_0 fa0_0, .int .i64 a1_0] => some ⟨Int, F_laws_szInt64S fu (⟨za0_0, na0_0, fa0_0⟩ : (Sl Int)) a1_0, enc_i64, fun _ => true⟩ | _ => none
theorem goodv_b32 (fu : Nat) (a_0 : (Sl Int)) (left_1 : Int) (y : Int) (hy : F_laws_szInt64S fu a_0 left_1 = some y) : Good E Try.prog 157 [(.rs a_0.z .i64 a_0.n a_0.f), (.int .i64 left_1)] (enc_i64 y) :=
  fun_good E_ok (pc_good (pc := pc_b32 fu) hpc0 hpx0) (fn := Try.f157) (c := body_b32) (out := out_i64) (y := y) (by kernel_rfl) (by kernel_rfl) (by kernel_rfl) (lpok_b32 fu) (fun d hd => out_i64_enc d _ hd) ((ev_b32 fu a_0 left_1).trans hy)
theorem good_b32 (fu : Nat) : ∀ xs o, S_b32 fu xs = some o → ∀ y, o.x = some y → Good E Try.prog 157 xs (o.g y) := by
  intro xs o h y hy
  unfold S_b32 at h
  split at h
  · rename_i za0_0 na0_0 fa0_0 a1_0
    cases h
    exact goodv_b32 fu (⟨za0_0, na0_0, fa0_0⟩ : (Sl Int)) a1_0 y hy
  · cases h

/-! laws.szNode -/
def F_laws_szNode (fu : Nat) (a_0 : S_laws_Node) (left_1 : Int) : Option (Int) :=
  ((F_laws_szEntryS fu a_0.Log left_1).bind fun y415 => (bif (decide (y415 < 0)) then (some (-1)) else ((F_laws_szInt64S fu a_0.Votes y415).bind fun y416 => (bif (decide (y416 < 0)) then
    (some (-1)) else ((F_laws_szInt64S fu a_0.Next y416).bind fun y417 => (bif (decide (y417 < 0)) then (some (-1)) else ((F_laws_szInt64S fu a_0.Match y417).bind fun y418 => (bif (decide (y418 < 0)) then
    (some (-1)) else (some y418)))))))))
def pcf_b33 (fu : Nat) (f : Nat) (xs : List (D RT den)) : Option (Out RT den) := match f with | 156 => S_b31 fu xs | 157 => S_b32 fu xs | _ => none
def pc_b33 (fu : Nat) : Pc RT den := ⟨pcf_b33 fu, fun _ => false, fun _ => false, pcd0, pcx0⟩
def msk_b33 (b : Nat) : List Nat := []
def lp_b33 (fu : Nat) : Lp RT den (Int) := fun b s k => none
theorem ev_b33 (fu : Nat) (a_0 : S_laws_Node) (left_1 : Int) : evFun E (pc_b33 fu) msk_b33 (lp_b33 fu) out_i64 102 [(.agg [(.int .i64 a_0.Id), (.int .i64 a_0.Peers), (.int .i64 a_0.Term), (.int .i64 a_0.Voted), (.rs a_0.Log.z .laws_Entry a_0.Log.n a_0.Log.f), (.int .i64 a_0.Role), (.int .i64 a_0.Commit), (.rs a_0.Votes.z .i64 a_0.Votes.n a_0.Votes.f), (.rs a_0.Next.z .i64 a_0.Next.n a_0.Next.f), (.rs a_0.Match.z .i64 a_0.Match.n a_0.Match.f)]), (.int .i64 left_1)] = F_laws_szNode fu a_0 left_1 := by kernel_rfl
noncomputable def body_b33 : Code := Try.f102.body.getD .skip
theorem lpok_b33 (fu : Nat) : LpOk E (pc_b33 fu) msk_b33 (lp_b33 fu) (loops 0 body_b33) := by
  have h : loops 0 body_b33 = [] := by kernel_rfl
  rw [h]; intro p hp; cases hp
def S_b33 (fu : Nat) (xs : List (D RT den)) : Option (Out RT den) := match xs with | [.agg [.int .i64 a0_1, .int .i64 a0_2, .int .i64 a0_3, .int .i64 a0_4, .rs za0_5 .laws_Entry na0_5 fa0_5, .int .i64 a0_6, .int .i64 a0_7, .rs za0_8 .i64 na0_8 fa0_8, .rs za0_9 .i64 na0_9 fa0_9, .rs za0_10 .i64 na0_10 fa0_10], .int .i64 a1_0] => some ⟨Int, F_laws_szNode fu (⟨a0_1, a0_2, a0_3, a0_4, (⟨za0_5, na0_5, fa0_5⟩ : (Sl S_laws_Entry)), a0_6, a0_7, (⟨za0_8, na0_8, fa0_8⟩ : (Sl Int)), (⟨za0_9, na0_9, fa0_9⟩ : (Sl Int)), (⟨za0_10, na0_10, fa0_10⟩ : (Sl Int))⟩ : S_laws_Node) a1_0, enc_i64, fun _ => true⟩ | _ => none
theorem hpc_b33 (fu : Nat) : ∀ f xs o, pcf_b33 fu f xs = some o → ∀ y, o.x = some y → Good E Try.prog f xs (o.g y) := by
  intro f xs o h
  unfold pcf_b33 at h
  split at h
  · exact good_b31 fu xs o h
  · exact good_b32 fu xs o h
  · cases h
theorem goodv_b33 (fu : Nat) (a_0 : S_laws_Node) (left_1 : Int) (y : Int) (hy : F_laws_szNode fu a_0 left_1 = some y) : Good E Try.prog 102 [(.agg [(.int .i64 a_0.Id), (.int .i64 a_0.Peers), (.int .i64 a_0.Term), (.int .i64 a_0.Voted), (.rs a_0.Log.z .laws_Entry a_0.Log.n a_0.Log.f), (.int .i64 a_0.Role), (.int .i64 a_0.Commit), (.rs a_0.Votes.z .i64 a_0.Votes.n a_0.Votes.f), (.rs a_0.Next.z .i64 a_0.Next.n a_0.Next.f), (.rs a_0.Match.z .i64 a_0.Match.n a_0.Match.f)]), (.int .i64 left_1)] (enc_i64 y) :=
  fun_good E_ok (pc_good (pc := pc_b33 fu) (hpc_b33 fu) hpx0) (fn := Try.f102) (c := body_b33) (out := out_i64) (y := y) (by kernel_rfl) (by kernel_rfl) (by kernel_rfl) (lpok_b33 fu) (fun d hd => out_i64_enc d _ hd) ((ev_b33 fu a_0 left_1).trans hy)
theorem good_b33 (fu : Nat) : ∀ xs o, S_b33 fu xs = some o → ∀ y, o.x = some y → Good E Try.prog 102 xs (o.g y) := by
  intro xs o h y hy
  unfold S_b33 at h
  split at h
  · rename_i a0_1 a0_2 a0_3 a0_4 za0_5 na0_5 fa0_5 a0_6 a0_7 za0_8 na0_8 fa0_8 za0_9 na0_9 fa0_9 za0_10 na0_10 fa0_10 a1_0
    cases h
    exact goodv_b33 fu (⟨a0_1, a0_2, a0_3, a0_4, (⟨za0_5, na0_5, fa0_5⟩ : (Sl S_laws_Entry)), a0_6, a0_7, (⟨za0_8, na0_8, fa0_8⟩ : (Sl Int)), (⟨za0_9, na0_9, fa0_9⟩ : (Sl Int)), (⟨za0_10, na0_10, fa0_10⟩ : (Sl Int))⟩ : S_laws_Node) a1_0 y hy
  · cases h

/-! laws.szNodeS -/
def F_laws_szNodeS_B0 {ρ : Type} (fu : Nat) (a0_0 : (Sl S_laws_Node)) (k0 : Int → Option ρ) (k1 : Int → Option ρ) (left1_1 : Int) (i5_2 : Int) (go : Int → Int → Option ρ) : Option ρ :=
  (bif (decide (i5_2 < ((a0_0.n : Nat) : Int))) then ((bif (decide (0 ≤ i5_2) && decide ((Int.toNat i5_2) < a0_0.n)) then some () else none : Option Unit).bind fun _ =>
    ((F_laws_szNode fu (a0_0.f (Int.toNat i5_2)) left1_1).bind fun y412 => (bif (decide (y412 < 0)) then (k0 y412) else (go y412 (IntKind.wrap .i64 (i5_2 + 1)))))) else (k1 left1_1))
def F_laws_szNodeS (fu : Nat) (a_0 : (Sl S_laws_Node)) (left_1 : Int) : Option (Int) :=
  (bif (decide ((IntKind.wrap .i64 (left_1 - ((a_0.n : Nat) : Int))) < 0)) then (some (-1)) else (L (fun w0 go0 => F_laws_szNodeS_B0 fu a_0 (fun z413 => (some (-1))) (fun z414 =>
    (some z414)) w0.1 w0.2 (fun q0 q1 => go0 (q0, q1))) fu (((IntKind.wrap .i64 (left_1 - ((a_0.n : Nat) : Int))), 0) : Int × Int)))
def pcf_b34 (fu : Nat) (f : Nat) (xs : List (D RT den)) : Option (Out RT den) := match f with | 102 => S_b33 fu xs | _ => none
def pc_b34 (fu : Nat) : Pc RT den := ⟨pcf_b34 fu, fun _ => false, fun _ => false, pcd0, pcx0⟩
def msk_b34 (b : Nat) : List Nat := match b with | 0 => [2, 3, 4, 6, 7, 8, 9, 10, 11, 12, 13, 14, 15, 16, 17, 18, 19, 20, 21, 22, 23, 24, 25, 26] | 100000 => [0, 2, 3, 5, 6, 7, 8, 9, 10, 11, 12, 13, 14, 15, 16, 17, 18, 19, 20, 21, 22, 23, 24, 25, 26] | _ => []
def ps_b34_0 : List (Pat RT) := [.flat (.rs .laws_Node), .flat (.int .i64), .flat .q, .flat .q, .flat .q, .flat (.int .i64), .flat .q, .flat .q, .flat .q, .flat .q, .flat .q, .flat .q, .flat .q, .flat .q, .flat .q, .flat .q, .flat .q, .flat .q, .flat .q, .flat .q, .flat .q, .flat .q, .flat .q, .flat .q, .flat .q, .flat .q, .flat .q]
def os_b34_0 : List (OP RT) := []
def conv_b34_0 (r : Raw den ps_b34_0 os_b34_0) : ((Sl S_laws_Node)) × (Int × Int) := (r.1.1, (r.1.2.1, r.1.2.2.2.2.2.1))
def back_b34_0 (c : (Sl S_laws_Node)) (w : Int × Int) : St RT den := ⟨[(.rs c.z .laws_Node c.n c.f), (.int .i64 w.1), .q, .q, .q, (.int .i64 w.2), .q, .q, .q, .q, .q, .q, .q, .q, .q, .q, .q, .q, .q, .q, .q, .q, .q, .q, .q, .q, .q], []⟩
def Bk_b34_0 {ρ : Type} (fu : Nat) (c : (Sl S_laws_Node)) (k : Ex → St RT den → Option ρ) (w : Int × Int) (go : (Int × Int) → Option ρ) : Option ρ := F_laws_szNodeS_B0 fu c (fun a0 => k .ret ⟨[.q, (.int .i64 a0), .q, .q, (.int .i64 (-1)), .q, .q, .q, .q, .q, .q, .q, .q, .q, .q, .q, .q, .q, .q, .q, .q, .q, .q, .q, .q, .q, .q], []⟩) (fun a0 => k (.exit 0) ⟨[.q, (.int .i64 a0), .q, .q, .q, .q, .q, .q, .q, .q, .q, .q, .q, .q, .q, .q, .q, .q, .q, .q, .q, .q, .q, .q, .q, .q, .q], []⟩) w.1 w.2 (fun q0 q1 => go (q0, q1))
def lp_b34 (fu : Nat) : Lp RT den (Int) := fun b s k => match b with | 0 => handle ps_b34_0 os_b34_0 conv_b34_0 (Bk_b34_0 fu) fu s k | _ => none
theorem ev_b34 (fu : Nat) (a_0 : (Sl S_laws_Node)) (left_1 : Int) : evFun E (pc_b34 fu) msk_b34 (lp_b34 fu) out_i64 38 [(.rs a_0.z .laws_Node a_0.n a_0.f), (.int .i64 left_1)] = F_laws_szNodeS fu a_0 left_1 := by kernel_rfl
noncomputable def body_b34 : Code := Try.f38.body.getD .skip
noncomputable def lc_b34_0 : Code := ((loops 0 body_b34).getD 0 (0, .skip)).2
theorem round_b34_0 (fu : Nat) (it : St RT den → Option (Int)) (k : Ex → St RT den → Option (Int)) c w : evCode E (pc_b34 fu) msk_b34 (lp_b34 fu) 0 lc_b34_0 (back_b34_0 c w) (after (msk_b34 0) (msk_b34 100000) 0 it k) = Bk_b34_0 fu c k w (fun w => it (back_b34_0 c w)) := by kernel_rfl
theorem lpok_b34_0 (fu : Nat) : ∀ s k r, lp_b34 fu 0 s k = some r → ∃ fuel, iter (msk_b34 0) (msk_b34 100000) s.objs.length (evCode E (pc_b34 fu) msk_b34 (lp_b34 fu) 0 lc_b34_0) fuel s k = some r :=
  handle_ok (ps := ps_b34_0) (os := os_b34_0) (conv := conv_b34_0) (B := Bk_b34_0 fu) (fu := fu) back_b34_0 (fun raw => by kernel_rfl) 0 (fun c w => by kernel_rfl) (round_b34_0 fu)
theorem lpok_b34 (fu : Nat) : LpOk E (pc_b34 fu) msk_b34 (lp_b34 fu) (loops 0 body_b34) := loop_all 1 (by kernel_rfl) fun i hi => match i, hi with
  | 0, _ => by
    have h : (loops 0 body_b34).getD 0 (0, .skip) = (0, lc_b34_0) := by kernel_rfl
    rw [h]; exact lpok_b34_0 fu
  | i + 1, hi => absurd hi (by omega)
def S_b34 (fu : Nat) (xs : List (D RT den)) : Option (Out RT den) := match xs with | [.rs za0_0 .laws_Node na0_0 fa0_0, .int .i64 a1_0] => some ⟨Int, F_laws_szNodeS fu (⟨za0_0, na0_0, fa0_0⟩ : (Sl S_laws_Node)) a1_0, enc_i64, fun _ => true⟩ | _ => none
theorem hpc_b34 (fu : Nat) : ∀ f xs o, pcf_b34 fu f xs = some o → ∀ y, o.x = some y → Good E Try.prog f xs (o.g y) := by
  intro f xs o h
  unfold pcf_b34 at h
  split at h
  · exact good_b33 fu xs o h
  · cases h
theorem goodv_b34 (fu : Nat) (a_0 : (Sl S_laws_Node)) (left_1 : Int) (y : Int) (hy : F_laws_szNodeS fu a_0 left_1 = some y) : Good E Try.prog 38 [(.rs a_0.z .laws_Node a_0.n a_0.f), (.int .i64 left_1)] (enc_i64 y) :=
  fun_good E_ok (pc_good (pc := pc_b34 fu) (hpc_b34 fu) hpx0) (fn := Try.f38) (c := body_b34) (out := out_i64) (y := y) (by kernel_rfl) (by kernel_rfl) (by kernel_rfl) (lpok_b34 fu) (fun d hd => out_i64_enc d _ hd) ((ev_b34 fu a_0 left_1).trans hy)
theorem good_b34 (fu : Nat) : ∀ xs o, S_b34 fu xs = some o → ∀ y, o.x = some y → Good E Try.prog 38 xs (o.g y) := by
  intro xs o h y hy
  unfold S_b34 at h
  split at h
  · rename_i za0_0 na0_0 fa0_0 a1_0
    cases h
    exact goodv_b34 fu (⟨za0_0, na0_0, fa0_0⟩ : (Sl S_laws_Node)) a1_0 y hy
  · cases h

/-! laws.szMail -/
def F_laws_szMail (fu : Nat) (a_0 : S_laws_Mail) (left_1 : Int) : Option (Int) :=
  ((F_laws_szEntryS fu a_0.Entries left_1).bind fun y422 => (bif (decide (y422 < 0)) then (some (-1)) else (some y422)))
def pcf_b35 (fu : Nat) (f : Nat) (xs : List (D RT den)) : Option (Out RT den) := match f with | 156 => S_b31 fu xs | _ => none
def pc_b35 (fu : Nat) : Pc RT den := ⟨pcf_b35 fu, fun _ => false, fun _ => false, pcd0, pcx0⟩
def msk_b35 (b : Nat) : List Nat := []
def lp_b35 (fu : Nat) : Lp RT den (Int) := fun b s k => none
theorem ev_b35 (fu : Nat) (a_0 : S_laws_Mail) (left_1 : Int) : evFun E (pc_b35 fu) msk_b35 (lp_b35 fu) out_i64 103 [(.agg [(.int .i64 a_0.Kind), (.int .i64 a_0.From), (.int .i64 a_0.To), (.int .i64 a_0.Term), (.int .i64 a_0.Index), (.int .i64 a_0.Last), (.int .i64 a_0.Commit), (.bool a_0.Ok), (.rs a_0.Entries.z .laws_Entry a_0.Entries.n a_0.Entries.f)]), (.int .i64 left_1)] = F_laws_szMail fu a_0 left_1 := by kernel_rfl
noncomputable def body_b35 : Code := Try.f103.body.getD .skip
theorem lpok_b35 (fu : Nat) : LpOk E (pc_b35 fu) msk_b35 (lp_b35 fu) (loops 0 body_b35) := by
  have h : loops 0 body_b35 = [] := by kernel_rfl
  rw [h]; intro p hp; cases hp
def S_b35 (fu : Nat) (xs : List (D RT den)) : Option (Out RT den) := match xs with | [.agg [.int .i64 a0_1, .int .i64 a0_2, .int .i64 a0_3, .int .i64 a0_4, .int .i64 a0_5, .int .i64 a0_6, .int .i64 a0_7, .bool a0_8, .rs za0_9 .laws_Entry na0_9 fa0_9], .int .i64 a1_0] => some ⟨Int, F_laws_szMail fu (⟨a0_1, a0_2, a0_3, a0_4, a0_5, a0_6, a0_7, a0_8, (⟨za0_9, na0_9, fa0_9⟩ : (Sl S_laws_Entry))⟩ : S_laws_Mail) a1_0, enc_i64, fun _ => true⟩ | _ => none
theorem hpc_b35 (fu : Nat) : ∀ f xs o, pcf_b35 fu f xs = some o → ∀ y, o.x = some y → Good E Try.prog f xs (o.g y) := by
  intro f xs o h
  unfold pcf_b35 at h
  split at h
  · exact good_b31 fu xs o h
  · cases h
theorem goodv_b35 (fu : Nat) (a_0 : S_laws_Mail) (left_1 : Int) (y : Int) (hy : F_laws_szMail fu a_0 left_1 = some y) : Good E Try.prog 103 [(.agg [(.int .i64 a_0.Kind), (.int .i64 a_0.From), (.int .i64 a_0.To), (.int .i64 a_0.Term), (.int .i64 a_0.Index), (.int .i64 a_0.Last), (.int .i64 a_0.Commit), (.bool a_0.Ok), (.rs a_0.Entries.z .laws_Entry a_0.Entries.n a_0.Entries.f)]), (.int .i64 left_1)] (enc_i64 y) :=
  fun_good E_ok (pc_good (pc := pc_b35 fu) (hpc_b35 fu) hpx0) (fn := Try.f103) (c := body_b35) (out := out_i64) (y := y) (by kernel_rfl) (by kernel_rfl) (by kernel_rfl) (lpok_b35 fu) (fun d hd => out_i64_enc d _ hd) ((ev_b35 fu a_0 left_1).trans hy)
theorem good_b35 (fu : Nat) : ∀ xs o, S_b35 fu xs = some o → ∀ y, o.x = some y → Good E Try.prog 103 xs (o.g y) := by
  intro xs o h y hy
  unfold S_b35 at h
  split at h
  · rename_i a0_1 a0_2 a0_3 a0_4 a0_5 a0_6 a0_7 a0_8 za0_9 na0_9 fa0_9 a1_0
    cases h
    exact goodv_b35 fu (⟨a0_1, a0_2, a0_3, a0_4, a0_5, a0_6, a0_7, a0_8, (⟨za0_9, na0_9, fa0_9⟩ : (Sl S_laws_Entry))⟩ : S_laws_Mail) a1_0 y hy
  · cases h

/-! laws.szMailS -/
def F_laws_szMailS_B0 {ρ : Type} (fu : Nat) (a0_0 : (Sl S_laws_Mail)) (k0 : Int → Option ρ) (k1 : Int → Option ρ) (left1_1 : Int) (i5_2 : Int) (go : Int → Int → Option ρ) : Option ρ :=
  (bif (decide (i5_2 < ((a0_0.n : Nat) : Int))) then ((bif (decide (0 ≤ i5_2) && decide ((Int.toNat i5_2) < a0_0.n)) then some () else none : Option Unit).bind fun _ =>
    ((F_laws_szMail fu (a0_0.f (Int.toNat i5_2)) left1_1).bind fun y419 => (bif (decide (y419 < 0)) then (k0 y419) else (go y419 (IntKind.wrap .i64 (i5_2 + 1)))))) else (k1 left1_1))
def F_laws_szMailS (fu : Nat) (a_0 : (Sl S_laws_Mail)) (left_1 : Int) : Option (Int) :=
  (bif (decide ((IntKind.wrap .i64 (left_1 - ((a_0.n : Nat) : Int))) < 0)) then (some (-1)) else (L (fun w0 go0 => F_laws_szMailS_B0 fu a_0 (fun z420 => (some (-1))) (fun z421 =>
    (some z421)) w0.1 w0.2 (fun q0 q1 => go0 (q0, q1))) fu (((IntKind.wrap .i64 (left_1 - ((a_0.n : Nat) : Int))), 0) : Int × Int)))
def pcf_b36 (fu : Nat) (f : Nat) (xs : List (D RT den)) : Option (Out RT den) := match f with | 103 => S_b35 fu xs | _ => none
def pc_b36 (fu : Nat) : Pc RT den := ⟨pcf_b36 fu, fun _ => false, fun _ => false, pcd0, pcx0⟩
def msk_b36 (b : Nat) : List Nat := match b with | 0 => [2, 3, 4, 6, 7, 8, 9, 10, 11, 12, 13, 14, 15, 16, 17, 18, 19, 20, 21, 22, 23, 24, 25, 26] | 100000 => [0, 2, 3, 5, 6, 7, 8, 9, 10, 11, 12, 13, 14, 15, 16, 17, 18, 19, 20, 21, 22, 23, 24, 25, 26] | _ => []
def ps_b36_0 : List (Pat RT) := [.flat (.rs .laws_Mail), .flat (.int .i64), .flat .q, .flat .q, .flat .q, .flat (.int .i64), .flat .q, .flat .q, .flat .q, .flat .q, .flat .q, .flat .q, .flat .q, .flat .q, .flat .q, .flat .q, .flat .q, .flat .q, .flat .q, .flat .q, .flat .q, .flat .q, .flat .q, .flat .q, .flat .q, .flat .q, .flat .q]
def os_b36_0 : List (OP RT) := []
def conv_b36_0 (r : Raw den ps_b36_0 os_b36_0) : ((Sl S_laws_Mail)) × (Int × Int) := (r.1.1, (r.1.2.1, r.1.2.2.2.2.2.1))
def back_b36_0 (c : (Sl S_laws_Mail)) (w : Int × Int) : St RT den := ⟨[(.rs c.z .laws_Mail c.n c.f), (.int .i64 w.1), .q, .q, .q, (.int .i64 w.2), .q, .q, .q, .q, .q, .q, .q, .q, .q, .q, .q, .q, .q, .q, .q, .q, .q, .q, .q, .q, .q], []⟩
def Bk_b36_0 {ρ : Type} (fu : Nat) (c : (Sl S_laws_Mail)) (k : Ex → St RT den → Option ρ) (w : Int × Int) (go : (Int × Int) → Option ρ) : Option ρ := F_laws_szMailS_B0 fu c (fun a0 => k .ret ⟨[.q, (.int .i64 a0), .q, .q, (.int .i64 (-1)), .q, .q, .q, .q, .q, .q, .q, .q, .q, .q, .q, .q, .q, .q, .q, .q, .q, .q, .q, .q, .q, .q], []⟩) (fun a0 => k (.exit 0) ⟨[.q, (.int .i64 a0), .q, .q, .q, .q, .q, .q, .q, .q, .q, .q, .q, .q, .q, .q, .q, .q, .q, .q, .q, .q, .q, .q, .q, .q, .q], []⟩) w.1 w.2 (fun q0 q1 => go (q0, q1))
def lp_b36 (fu : Nat) : Lp RT den (Int) := fun b s k => match b with | 0 => handle ps_b36_0 os_b36_0 conv_b36_0 (Bk_b36_0 fu) fu s k | _ => none
theorem ev_b36 (fu : Nat) (a_0 : (Sl S_laws_Mail)) (left_1 : Int) : evFun E (pc_b36 fu) msk_b36 (lp_b36 fu) out_i64 39 [(.rs a_0.z .laws_Mail a_0.n a_0.f), (.int .i64 left_1)] = F_laws_szMailS fu a_0 left_1 := by kernel_rfl
noncomputable def body_b36 : Code := Try.f39.body.getD .skip
noncomputable def lc_b36_0 : Code := ((loops 0 body_b36).getD 0 (0, .skip)).2
theorem round_b36_0 (fu : Nat) (it : St RT den → Option (Int)) (k : Ex → St RT den → Option (Int)) c w : evCode E (pc_b36 fu) msk_b36 (lp_b36 fu) 0 lc_b36_0 (back_b36_0 c w) (after (msk_b36 0) (msk_b36 100000) 0 it k) = Bk_b36_0 fu c k w (fun w => it (back_b36_0 c w)) := by kernel_rfl
theorem lpok_b36_0 (fu : Nat) : ∀ s k r, lp_b36 fu 0 s k = some r → ∃ fuel, iter (msk_b36 0) (msk_b36 100000) s.objs.length (evCode E (pc_b36 fu) msk_b36 (lp_b36 fu) 0 lc_b36_0) fuel s k = some r :=
  handle_ok (ps := ps_b36_0) (os := os_b36_0) (conv := conv_b36_0) (B := Bk_b36_0 fu) (fu := fu) back_b36_0 (fun raw => by kernel_rfl) 0 (fun c w => by kernel_rfl) (round_b36_0 fu)
theorem lpok_b36 (fu : Nat) : LpOk E (pc_b36 fu) msk_b36 (lp_b36 fu) (loops 0 body_b36) := loop_all 1 (by kernel_rfl) fun i hi => match i, hi with
  | 0, _ => by
    have h : (loops 0 body_b36).getD 0 (0, .skip) = (0, lc_b36_0) := by kernel_rfl
    rw [h]; exact lpok_b36_0 fu
  | i + 1, hi => absurd hi (by omega)
def S_b36 (fu : Nat) (xs : List (D RT den)) : Option (Out RT den) := match xs with | [.rs za0_0 .laws_Mail na0_0 fa0_0, .int .i64 a1_0] => some ⟨Int, F_laws_szMailS fu (⟨za0_0, na0_0, fa0_0⟩ : (Sl S_laws_Mail)) a1_0, enc_i64, fun _ => true⟩ | _ => none
theorem hpc_b36 (fu : Nat) : ∀ f xs o, pcf_b36 fu f xs = some o → ∀ y, o.x = some y → Good E Try.prog f xs (o.g y) := by
  intro f xs o h
  unfold pcf_b36 at h
  split at h
  · exact good_b35 fu xs o h
  · cases h
theorem goodv_b36 (fu : Nat) (a_0 : (Sl S_laws_Mail)) (left_1 : Int) (y : Int) (hy : F_laws_szMailS fu a_0 left_1 = some y) : Good E Try.prog 39 [(.rs a_0.z .laws_Mail a_0.n a_0.f), (.int .i64 left_1)] (enc_i64 y) :=
  fun_good E_ok (pc_good (pc := pc_b36 fu) (hpc_b36 fu) hpx0) (fn := Try.f39) (c := body_b36) (out := out_i64) (y := y) (by kernel_rfl) (by kernel_rfl) (by kernel_rfl) (lpok_b36 fu) (fun d hd => out_i64_enc d _ hd) ((ev_b36 fu a_0 left_1).trans hy)
theorem good_b36 (fu : Nat) : ∀ xs o, S_b36 fu xs = some o → ∀ y, o.x = some y → Good E Try.prog 39 xs (o.g y) := by
  intro xs o h y hy
  unfold S_b36 at h
  split at h
  · rename_i za0_0 na0_0 fa0_0 a1_0
    cases h
    exact goodv_b36 fu (⟨za0_0, na0_0, fa0_0⟩ : (Sl S_laws_Mail)) a1_0 y hy
  · cases h

/-! laws.szWonS -/
def F_laws_szWonS (fu : Nat) (a_0 : (Sl S_impl_Won)) (left_1 : Int) : Option (Int) :=
  (bif (decide ((IntKind.wrap .i64 (left_1 - ((a_0.n : Nat) : Int))) < 0)) then (some (-1)) else (some (IntKind.wrap .i64 (left_1 - ((a_0.n : Nat) : Int)))))
def pc_b37 (fu : Nat) : Pc RT den := ⟨pcf0, fun _ => false, fun _ => false, pcd0, pcx0⟩
def msk_b37 (b : Nat) : List Nat := []
def lp_b37 (fu : Nat) : Lp RT den (Int) := fun b s k => none
theorem ev_b37 (fu : Nat) (a_0 : (Sl S_impl_Won)) (left_1 : Int) : evFun E (pc_b37 fu) msk_b37 (lp_b37 fu) out_i64 40 [(.rs a_0.z .impl_Won a_0.n a_0.f), (.int .i64 left_1)] = F_laws_szWonS fu a_0 left_1 := by kernel_rfl
noncomputable def body_b37 : Code := Try.f40.body.getD .skip
theorem lpok_b37 (fu : Nat) : LpOk E (pc_b37 fu) msk_b37 (lp_b37 fu) (loops 0 body_b37) := by
  have h : loops 0 body_b37 = [] := by kernel_rfl
  rw [h]; intro p hp; cases hp
def S_b37 (fu : Nat) (xs : List (D RT den)) : Option (Out RT den) := match xs with | [.rs za0_0 .impl_Won na0_0 fa0_0, .int .i64 a1_0] => some ⟨Int, F_laws_szWonS fu (⟨za0_0, na0_0, fa0_0⟩ : (Sl S_impl_Won)) a1_0, enc_i64, fun _ => true⟩ | _ => none
theorem goodv_b37 (fu : Nat) (a_0 : (Sl S_impl_Won)) (left_1 : Int) (y : Int) (hy : F_laws_szWonS fu a_0 left_1 = some y) : Good E Try.prog 40 [(.rs a_0.z .impl_Won a_0.n a_0.f), (.int .i64 left_1)] (enc_i64 y) :=
  fun_good E_ok (pc_good (pc := pc_b37 fu) hpc0 hpx0) (fn := Try.f40) (c := body_b37) (out := out_i64) (y := y) (by kernel_rfl) (by kernel_rfl) (by kernel_rfl) (lpok_b37 fu) (fun d hd => out_i64_enc d _ hd) ((ev_b37 fu a_0 left_1).trans hy)
theorem good_b37 (fu : Nat) : ∀ xs o, S_b37 fu xs = some o → ∀ y, o.x = some y → Good E Try.prog 40 xs (o.g y) := by
  intro xs o h y hy
  unfold S_b37 at h
  split at h
  · rename_i za0_0 na0_0 fa0_0 a1_0
    cases h
    exact goodv_b37 fu (⟨za0_0, na0_0, fa0_0⟩ : (Sl S_impl_Won)) a1_0 y hy
  · cases h

/-! laws.szSealS -/
def F_laws_szSealS (fu : Nat) (a_0 : (Sl S_laws_Seal)) (left_1 : Int) : Option (Int) :=
  (bif (decide ((IntKind.wrap .i64 (left_1 - ((a_0.n : Nat) : Int))) < 0)) then (some (-1)) else (some (IntKind.wrap .i64 (left_1 - ((a_0.n : Nat) : Int)))))
def pc_b38 (fu : Nat) : Pc RT den := ⟨pcf0, fun _ => false, fun _ => false, pcd0, pcx0⟩
def msk_b38 (b : Nat) : List Nat := []
def lp_b38 (fu : Nat) : Lp RT den (Int) := fun b s k => none
theorem ev_b38 (fu : Nat) (a_0 : (Sl S_laws_Seal)) (left_1 : Int) : evFun E (pc_b38 fu) msk_b38 (lp_b38 fu) out_i64 41 [(.rs a_0.z .laws_Seal a_0.n a_0.f), (.int .i64 left_1)] = F_laws_szSealS fu a_0 left_1 := by kernel_rfl
noncomputable def body_b38 : Code := Try.f41.body.getD .skip
theorem lpok_b38 (fu : Nat) : LpOk E (pc_b38 fu) msk_b38 (lp_b38 fu) (loops 0 body_b38) := by
  have h : loops 0 body_b38 = [] := by kernel_rfl
  rw [h]; intro p hp; cases hp
def S_b38 (fu : Nat) (xs : List (D RT den)) : Option (Out RT den) := match xs with | [.rs za0_0 .laws_Seal na0_0 fa0_0, .int .i64 a1_0] => some ⟨Int, F_laws_szSealS fu (⟨za0_0, na0_0, fa0_0⟩ : (Sl S_laws_Seal)) a1_0, enc_i64, fun _ => true⟩ | _ => none
theorem goodv_b38 (fu : Nat) (a_0 : (Sl S_laws_Seal)) (left_1 : Int) (y : Int) (hy : F_laws_szSealS fu a_0 left_1 = some y) : Good E Try.prog 41 [(.rs a_0.z .laws_Seal a_0.n a_0.f), (.int .i64 left_1)] (enc_i64 y) :=
  fun_good E_ok (pc_good (pc := pc_b38 fu) hpc0 hpx0) (fn := Try.f41) (c := body_b38) (out := out_i64) (y := y) (by kernel_rfl) (by kernel_rfl) (by kernel_rfl) (lpok_b38 fu) (fun d hd => out_i64_enc d _ hd) ((ev_b38 fu a_0 left_1).trans hy)
theorem good_b38 (fu : Nat) : ∀ xs o, S_b38 fu xs = some o → ∀ y, o.x = some y → Good E Try.prog 41 xs (o.g y) := by
  intro xs o h y hy
  unfold S_b38 at h
  split at h
  · rename_i za0_0 na0_0 fa0_0 a1_0
    cases h
    exact goodv_b38 fu (⟨za0_0, na0_0, fa0_0⟩ : (Sl S_laws_Seal)) a1_0 y hy
  · cases h

/-! laws.szCluster -/
def F_laws_szCluster (fu : Nat) (a_0 : S_laws_Cluster) (left_1 : Int) : Option (Int) :=
  ((F_laws_szNodeS fu a_0.Nodes left_1).bind fun y408 => (bif (decide (y408 < 0)) then (some (-1)) else ((F_laws_szMailS fu a_0.Mails y408).bind fun y409 => (bif (decide (y409 < 0)) then
    (some (-1)) else ((F_laws_szWonS fu a_0.Wins y409).bind fun y410 => (bif (decide (y410 < 0)) then (some (-1)) else ((F_laws_szSealS fu a_0.Seals y410).bind fun y411 => (bif (decide (y411 < 0)) then
    (some (-1)) else (some y411)))))))))
def pcf_b39 (fu : Nat) (f : Nat) (xs : List (D RT den)) : Option (Out RT den) := match f with | 38 => S_b34 fu xs | 39 => S_b36 fu xs | 40 => S_b37 fu xs | 41 => S_b38 fu xs | _ => none
def pc_b39 (fu : Nat) : Pc RT den := ⟨pcf_b39 fu, fun _ => false, fun _ => false, pcd0, pcx0⟩
def msk_b39 (b : Nat) : List Nat := []
def lp_b39 (fu : Nat) : Lp RT den (Int) := fun b s k => none
theorem ev_b39 (fu : Nat) (a_0 : S_laws_Cluster) (left_1 : Int) : evFun E (pc_b39 fu) msk_b39 (lp_b39 fu) out_i64 7 [(.agg [(.rs a_0.Nodes.z .laws_Node a_0.Nodes.n a_0.Nodes.f), (.rs a_0.Mails.z .laws_Mail a_0.Mails.n a_0.Mails.f), (.rs a_0.Wins.z .impl_Won a_0.Wins.n a_0.Wins.f), (.rs a_0.Seals.z .laws_Seal a_0.Seals.n a_0.Seals.f)]), (.int .i64 left_1)] = F_laws_szCluster fu a_0 left_1 := by kernel_rfl
noncomputable def body_b39 : Code := Try.f7.body.getD .skip
theorem lpok_b39 (fu : Nat) : LpOk E (pc_b39 fu) msk_b39 (lp_b39 fu) (loops 0 body_b39) := by
  have h : loops 0 body_b39 = [] := by kernel_rfl
  rw [h]; intro p hp; cases hp
def S_b39 (fu : Nat) (xs : List (D RT den)) : Option (Out RT den) := match xs with | [.agg [.rs za0_1 .laws_Node na0_1 fa0_1, .rs za0_2 .laws_Mail na0_2 fa0_2, .rs za0_3 .impl_Won na0_3 fa0_3, .rs za0_4 .laws_Seal na0_4 fa0_4], .int .i64 a1_0] => some ⟨Int, F_laws_szCluster fu (⟨(⟨za0_1, na0_1, fa0_1⟩ : (Sl S_laws_Node)), (⟨za0_2, na0_2, fa0_2⟩ : (Sl S_laws_Mail)), (⟨za0_3, na0_3, fa0_3⟩ : (Sl S_impl_Won)), (⟨za0_4, na0_4, fa0_4⟩ : (Sl S_laws_Seal))⟩ : S_laws_Cluster) a1_0, enc_i64, fun _ => true⟩ | _ => none
theorem hpc_b39 (fu : Nat) : ∀ f xs o, pcf_b39 fu f xs = some o → ∀ y, o.x = some y → Good E Try.prog f xs (o.g y) := by
  intro f xs o h
  unfold pcf_b39 at h
  split at h
  · exact good_b34 fu xs o h
  · exact good_b36 fu xs o h
  · exact good_b37 fu xs o h
  · exact good_b38 fu xs o h
  · cases h
theorem goodv_b39 (fu : Nat) (a_0 : S_laws_Cluster) (left_1 : Int) (y : Int) (hy : F_laws_szCluster fu a_0 left_1 = some y) : Good E Try.prog 7 [(.agg [(.rs a_0.Nodes.z .laws_Node a_0.Nodes.n a_0.Nodes.f), (.rs a_0.Mails.z .laws_Mail a_0.Mails.n a_0.Mails.f), (.rs a_0.Wins.z .impl_Won a_0.Wins.n a_0.Wins.f), (.rs a_0.Seals.z .laws_Seal a_0.Seals.n a_0.Seals.f)]), (.int .i64 left_1)] (enc_i64 y) :=
  fun_good E_ok (pc_good (pc := pc_b39 fu) (hpc_b39 fu) hpx0) (fn := Try.f7) (c := body_b39) (out := out_i64) (y := y) (by kernel_rfl) (by kernel_rfl) (by kernel_rfl) (lpok_b39 fu) (fun d hd => out_i64_enc d _ hd) ((ev_b39 fu a_0 left_1).trans hy)
theorem good_b39 (fu : Nat) : ∀ xs o, S_b39 fu xs = some o → ∀ y, o.x = some y → Good E Try.prog 7 xs (o.g y) := by
  intro xs o h y hy
  unfold S_b39 at h
  split at h
  · rename_i za0_1 na0_1 fa0_1 za0_2 na0_2 fa0_2 za0_3 na0_3 fa0_3 za0_4 na0_4 fa0_4 a1_0
    cases h
    exact goodv_b39 fu (⟨(⟨za0_1, na0_1, fa0_1⟩ : (Sl S_laws_Node)), (⟨za0_2, na0_2, fa0_2⟩ : (Sl S_laws_Mail)), (⟨za0_3, na0_3, fa0_3⟩ : (Sl S_impl_Won)), (⟨za0_4, na0_4, fa0_4⟩ : (Sl S_laws_Seal))⟩ : S_laws_Cluster) a1_0 y hy
  · cases h

/-! laws.eqCmd -/
def F_laws_eqCmd (fu : Nat) (a_0 : S_impl_Cmd) (b_1 : S_impl_Cmd) : Option (Bool) :=
  (bif (a_0.Kind != b_1.Kind) then (some false) else (bif (a_0.Expect != b_1.Expect) then (some false) else (bif (a_0.Name != b_1.Name) then (some false) else (bif (a_0.Addr != b_1.Addr) then
    (some false) else (bif (a_0.Number != b_1.Number) then (some false) else (bif (a_0.Proto != b_1.Proto) then (some false) else (some true)))))))
def pc_c0 (fu : Nat) : Pc RT den := ⟨pcf0, fun _ => false, fun _ => false, pcd0, pcx0⟩
def msk_c0 (b : Nat) : List Nat := []
def lp_c0 (fu : Nat) : Lp RT den (Bool) := fun b s k => none
theorem ev_c0 (fu : Nat) (a_0 : S_impl_Cmd) (b_1 : S_impl_Cmd) : evFun E (pc_c0 fu) msk_c0 (lp_c0 fu) out_bo 137 [(.agg [(.int .i64 a_0.Kind), (.int .i64 a_0.Expect), (.int .i64 a_0.Name), (.int .i64 a_0.Addr), (.int .i64 a_0.Number), (.int .i64 a_0.Proto)]), (.agg [(.int .i64 b_1.Kind), (.int .i64 b_1.Expect), (.int .i64 b_1.Name), (.int .i64 b_1.Addr), (.int .i64 b_1.Number), (.int .i64 b_1.Proto)])] = F_laws_eqCmd fu a_0 b_1 := by kernel_rfl
noncomputable def body_c0 : Code := Try.f137.body.getD .skip
theorem lpok_c0 (fu : Nat) : LpOk E (pc_c0 fu) msk_c0 (lp_c0 fu) (loops 0 body_c0) := by
  have h : loops 0 body_c0 = [] := by kernel_rfl
  rw [h]; intro p hp; cases hp
def S_c0 (fu : Nat) (xs : List (D RT den)) : Option (Out RT den) := match xs with | [.agg [.int .i64 a0_1, .int .i64 a0_2, .int .i64 a0_3, .int .i64 a0_4, .int .i64 a0_5, .int .i64 a0_6], .agg [.int .i64 a1_1, .int .i64 a1_2, .int .i64 a1_3, .int .i64 a1_4, .int .i64 a1_5, .int .i64 a1_6]] => some ⟨Bool, F_laws_eqCmd fu (⟨a0_1, a0_2, a0_3, a0_4, a0_5, a0_6⟩ : S_impl_Cmd) (⟨a1_1, a1_2, a1_3, a1_4, a1_5, a1_6⟩ : S_impl_Cmd), enc_bo, fun _ => true⟩ | _ => none
theorem goodv_c0 (fu : Nat) (a_0 : S_impl_Cmd) (b_1 : S_impl_Cmd) (y : Bool) (hy : F_laws_eqCmd fu a_0 b_1 = some y) : Good E Try.prog 137 [(.agg [(.int .i64 a_0.Kind), (.int .i64 a_0.Expect), (.int .i64 a_0.Name), (.int .i64 a_0.Addr), (.int .i64 a_0.Number), (.int .i64 a_0.Proto)]), (.agg [(.int .i64 b_1.Kind), (.int .i64 b_1.Expect), (.int .i64 b_1.Name), (.int .i64 b_1.Addr), (.int .i64 b_1.Number), (.int .i64 b_1.Proto)])] (enc_bo y) :=
  fun_good E_ok (pc_good (pc := pc_c0 fu) hpc0 hpx0) (fn := Try.f137) (c := body_c0) (out := out_bo) (y := y) (by kernel_rfl) (by kernel_rfl) (by kernel_rfl) (lpok_c0 fu) (fun d hd => out_bo_enc d _ hd) ((ev_c0 fu a_0 b_1).trans hy)
theorem good_c0 (fu : Nat) : ∀ xs o, S_c0 fu xs = some o → ∀ y, o.x = some y → Good E Try.prog 137 xs (o.g y) := by
  intro xs o h y hy
  unfold S_c0 at h
  split at h
  · rename_i a0_1 a0_2 a0_3 a0_4 a0_5 a0_6 a1_1 a1_2 a1_3 a1_4 a1_5 a1_6
    cases h
    exact goodv_c0 fu (⟨a0_1, a0_2, a0_3, a0_4, a0_5, a0_6⟩ : S_impl_Cmd) (⟨a1_1, a1_2, a1_3, a1_4, a1_5, a1_6⟩ : S_impl_Cmd) y hy
  · cases h

/-! laws.eqEntry -/
def F_laws_eqEntry (fu : Nat) (a_0 : S_impl_Entry) (b_1 : S_impl_Entry) : Option (Bool) :=
  (bif (a_0.Term != b_1.Term) then (some false) else (bif (a_0.Client != b_1.Client) then (some false) else (bif (a_0.Seq != b_1.Seq) then (some false) else ((F_laws_eqCmd fu a_0.Cmd b_1.Cmd).bind fun y425 =>
    (bif (!y425) then (some false) else (some true))))))
def pcf_c1 (fu : Nat) (f : Nat) (xs : List (D RT den)) : Option (Out RT den) := match f with | 137 => S_c0 fu xs | _ => none
def pc_c1 (fu : Nat) : Pc RT den := ⟨pcf_c1 fu, fun _ => false, fun _ => false, pcd0, pcx0⟩
def msk_c1 (b : Nat) : List Nat := []
def lp_c1 (fu : Nat) : Lp RT den (Bool) := fun b s k => none
theorem ev_c1 (fu : Nat) (a_0 : S_impl_Entry) (b_1 : S_impl_Entry) : evFun E (pc_c1 fu) msk_c1 (lp_c1 fu) out_bo 117 [(.agg [(.int .i64 a_0.Term), (.int .i64 a_0.Client), (.int .i64 a_0.Seq), (.int .i64 a_0.Cmd.Kind), (.int .i64 a_0.Cmd.Expect), (.int .i64 a_0.Cmd.Name), (.int .i64 a_0.Cmd.Addr), (.int .i64 a_0.Cmd.Number), (.int .i64 a_0.Cmd.Proto)]), (.agg [(.int .i64 b_1.Term), (.int .i64 b_1.Client), (.int .i64 b_1.Seq), (.int .i64 b_1.Cmd.Kind), (.int .i64 b_1.Cmd.Expect), (.int .i64 b_1.Cmd.Name), (.int .i64 b_1.Cmd.Addr), (.int .i64 b_1.Cmd.Number), (.int .i64 b_1.Cmd.Proto)])] = F_laws_eqEntry fu a_0 b_1 := by kernel_rfl
noncomputable def body_c1 : Code := Try.f117.body.getD .skip
theorem lpok_c1 (fu : Nat) : LpOk E (pc_c1 fu) msk_c1 (lp_c1 fu) (loops 0 body_c1) := by
  have h : loops 0 body_c1 = [] := by kernel_rfl
  rw [h]; intro p hp; cases hp
def S_c1 (fu : Nat) (xs : List (D RT den)) : Option (Out RT den) := match xs with | [.agg [.int .i64 a0_1, .int .i64 a0_2, .int .i64 a0_3, .int .i64 a0_5, .int .i64 a0_6, .int .i64 a0_7, .int .i64 a0_8, .int .i64 a0_9, .int .i64 a0_10], .agg [.int .i64 a1_1, .int .i64 a1_2, .int .i64 a1_3, .int .i64 a1_5, .int .i64 a1_6, .int .i64 a1_7, .int .i64 a1_8, .int .i64 a1_9, .int .i64 a1_10]] => some ⟨Bool, F_laws_eqEntry fu (⟨a0_1, a0_2, a0_3, (⟨a0_5, a0_6, a0_7, a0_8, a0_9, a0_10⟩ : S_impl_Cmd)⟩ : S_impl_Entry) (⟨a1_1, a1_2, a1_3, (⟨a1_5, a1_6, a1_7, a1_8, a1_9, a1_10⟩ : S_impl_Cmd)⟩ : S_impl_Entry), enc_bo, fun _ => true⟩ | _ => none
theorem hpc_c1 (fu : Nat) : ∀ f xs o, pcf_c1 fu f xs = some o → ∀ y, o.x = some y → Good E Try.prog f xs (o.g y) := by
  intro f xs o h
  unfold pcf_c1 at h
  split at h
  · exact good_c0 fu xs o h
  · cases h
theorem goodv_c1 (fu : Nat) (a_0 : S_impl_Entry) (b_1 : S_impl_Entry) (y : Bool) (hy : F_laws_eqEntry fu a_0 b_1 = some y) : Good E Try.prog 117 [(.agg [(.int .i64 a_0.Term), (.int .i64 a_0.Client), (.int .i64 a_0.Seq), (.int .i64 a_0.Cmd.Kind), (.int .i64 a_0.Cmd.Expect), (.int .i64 a_0.Cmd.Name), (.int .i64 a_0.Cmd.Addr), (.int .i64 a_0.Cmd.Number), (.int .i64 a_0.Cmd.Proto)]), (.agg [(.int .i64 b_1.Term), (.int .i64 b_1.Client), (.int .i64 b_1.Seq), (.int .i64 b_1.Cmd.Kind), (.int .i64 b_1.Cmd.Expect), (.int .i64 b_1.Cmd.Name), (.int .i64 b_1.Cmd.Addr), (.int .i64 b_1.Cmd.Number), (.int .i64 b_1.Cmd.Proto)])] (enc_bo y) :=
  fun_good E_ok (pc_good (pc := pc_c1 fu) (hpc_c1 fu) hpx0) (fn := Try.f117) (c := body_c1) (out := out_bo) (y := y) (by kernel_rfl) (by kernel_rfl) (by kernel_rfl) (lpok_c1 fu) (fun d hd => out_bo_enc d _ hd) ((ev_c1 fu a_0 b_1).trans hy)
theorem good_c1 (fu : Nat) : ∀ xs o, S_c1 fu xs = some o → ∀ y, o.x = some y → Good E Try.prog 117 xs (o.g y) := by
  intro xs o h y hy
  unfold S_c1 at h
  split at h
  · rename_i a0_1 a0_2 a0_3 a0_5 a0_6 a0_7 a0_8 a0_9 a0_10 a1_1 a1_2 a1_3 a1_5 a1_6 a1_7 a1_8 a1_9 a1_10
    cases h
    exact goodv_c1 fu (⟨a0_1, a0_2, a0_3, (⟨a0_5, a0_6, a0_7, a0_8, a0_9, a0_10⟩ : S_impl_Cmd)⟩ : S_impl_Entry) (⟨a1_1, a1_2, a1_3, (⟨a1_5, a1_6, a1_7, a1_8, a1_9, a1_10⟩ : S_impl_Cmd)⟩ : S_impl_Entry) y hy
  · cases h

/-! laws.eqEntryS -/
def F_laws_eqEntryS_B0 {ρ : Type} (fu : Nat) (a0_0 : (Sl S_impl_Entry)) (b1_1 : (Sl S_impl_Entry)) (k0 : Option ρ) (k1 : Option ρ) (i5_2 : Int) (go : Int → Option ρ) : Option ρ :=
  (bif (decide (i5_2 < ((a0_0.n : Nat) : Int))) then ((bif (decide (0 ≤ i5_2) && decide ((Int.toNat i5_2) < a0_0.n)) then some () else none : Option Unit).bind fun _ => ((bif (decide (0 ≤ i5_2) &&
    decide ((Int.toNat i5_2) < b1_1.n)) then some () else none : Option Unit).bind fun _ => ((F_laws_eqEntry fu (a0_0.f (Int.toNat i5_2)) (b1_1.f (Int.toNat i5_2))).bind fun y424 =>
    (bif (!y424) then k0 else (go (IntKind.wrap .i64 (i5_2 + 1))))))) else k1)
def F_laws_eqEntryS (fu : Nat) (a_0 : (Sl S_impl_Entry)) (b_1 : (Sl S_impl_Entry)) : Option (Bool) :=
  (bif (((a_0.n : Nat) : Int) != ((b_1.n : Nat) : Int)) then (some false) else (L (fun w0 go0 => F_laws_eqEntryS_B0 fu a_0 b_1 (some false) (some true) w0 go0) fu (0 : Int)))
def pcf_c2 (fu : Nat) (f : Nat) (xs : List (D RT den)) : Option (Out RT den) := match f with | 117 => S_c1 fu xs | _ => none
def pc_c2 (fu : Nat) : Pc RT den := ⟨pcf_c2 fu, fun _ => false, fun _ => false, pcd0, pcx0⟩
def msk_c2 (b : Nat) : List Nat := match b with | 0 => [2, 3, 4, 6, 7, 8, 9, 10, 11, 12, 13, 14, 15, 16, 17, 18, 19, 20, 21, 22, 23, 24, 25, 26] | 100000 => [0, 1, 2, 3, 5, 6, 7, 8, 9, 10, 11, 12, 13, 14, 15, 16, 17, 18, 19, 20, 21, 22, 23, 24, 25, 26] | _ => []
def ps_c2_0 : List (Pat RT) := [.flat (.rs .impl_Entry), .flat (.rs .impl_Entry), .flat .q, .flat .q, .flat .q, .flat (.int .i64), .flat .q, .flat .q, .flat .q, .flat .q, .flat .q, .flat .q, .flat .q, .flat .q, .flat .q, .flat .q, .flat .q, .flat .q, .flat .q, .flat .q, .flat .q, .flat .q, .flat .q, .flat .q, .flat .q, .flat .q, .flat .q]
def os_c2_0 : List (OP RT) := []
def conv_c2_0 (r : Raw den ps_c2_0 os_c2_0) : ((Sl S_impl_Entry) × (Sl S_impl_Entry)) × (Int) := ((r.1.1, r.1.2.1), r.1.2.2.2.2.2.1)
def back_c2_0 (c : (Sl S_impl_Entry) × (Sl S_impl_Entry)) (w : Int) : St RT den := ⟨[(.rs c.1.z .impl_Entry c.1.n c.1.f), (.rs c.2.z .impl_Entry c.2.n c.2.f), .q, .q, .q, (.int .i64 w), .q, .q, .q, .q, .q, .q, .q, .q, .q, .q, .q, .q, .q, .q, .q, .q, .q, .q, .q, .q, .q], []⟩
def Bk_c2_0 {ρ : Type} (fu : Nat) (c : (Sl S_impl_Entry) × (Sl S_impl_Entry)) (k : Ex → St RT den → Option ρ) (w : Int) (go : (Int) → Option ρ) : Option ρ := F_laws_eqEntryS_B0 fu c.1 c.2 (k .ret ⟨[.q, .q, .q, .q, (.bool false), .q, .q, .q, .q, .q, .q, .q, .q, .q, .q, .q, .q, .q, .q, .q, .q, .q, .q, .q, .q, .q, .q], []⟩) (k (.exit 0) ⟨[.q, .q, .q, .q, .q, .q, .q, .q, .q, .q, .q, .q, .q, .q, .q, .q, .q, .q, .q, .q, .q, .q, .q, .q, .q, .q, .q], []⟩) w go
def lp_c2 (fu : Nat) : Lp RT den (Bool) := fun b s k => match b with | 0 => handle ps_c2_0 os_c2_0 conv_c2_0 (Bk_c2_0 fu) fu s k | _ => none
theorem ev_c2 (fu : Nat) (a_0 : (Sl S_impl_Entry)) (b_1 : (Sl S_impl_Entry)) : evFun E (pc_c2 fu) msk_c2 (lp_c2 fu) out_bo 50 [(.rs a_0.z .impl_Entry a_0.n a_0.f), (.rs b_1.z .impl_Entry b_1.n b_1.f)] = F_laws_eqEntryS fu a_0 b_1 := by kernel_rfl
noncomputable def body_c2 : Code := Try.f50.body.getD .skip
noncomputable def lc_c2_0 : Code := ((loops 0 body_c2).getD 0 (0, .skip)).2
theorem round_c2_0 (fu : Nat) (it : St RT den → Option (Bool)) (k : Ex → St RT den → Option (Bool)) c w : evCode E (pc_c2 fu) msk_c2 (lp_c2 fu) 0 lc_c2_0 (back_c2_0 c w) (after (msk_c2 0) (msk_c2 100000) 0 it k) = Bk_c2_0 fu c k w (fun w => it (back_c2_0 c w)) := by kernel_rfl
theorem lpok_c2_0 (fu : Nat) : ∀ s k r, lp_c2 fu 0 s k = some r → ∃ fuel, iter (msk_c2 0) (msk_c2 100000) s.objs.length (evCode E (pc_c2 fu) msk_c2 (lp_c2 fu) 0 lc_c2_0) fuel s k = some r :=
  handle_ok (ps := ps_c2_0) (os := os_c2_0) (conv := conv_c2_0) (B := Bk_c2_0 fu) (fu := fu) back_c2_0 (fun raw => by kernel_rfl) 0 (fun c w => by kernel_rfl) (round_c2_0 fu)
theorem lpok_c2 (fu : Nat) : LpOk E (pc_c2 fu) msk_c2 (lp_c2 fu) (loops 0 body_c2) := loop_all 1 (by kernel_rfl) fun i hi => match i, hi with
  | 0, _ => by
    have h : (loops 0 body_c2).getD 0 (0, .skip) = (0, lc_c2_0) := by kernel_rfl
    rw [h]; exact lpok_c2_0 fu
  | i + 1, hi => absurd hi (by omega)
def S_c2 (fu : Nat) (xs : List (D RT den)) : Option (Out RT den) := match xs with | [.rs za0_0 .impl_Entry na0_0 fa0_0, .rs za1_0 .impl_Entry na1_0 fa1_0] => some ⟨Bool, F_laws_eqEntryS fu (⟨za0_0, na0_0, fa0_0⟩ : (Sl S_impl_Entry)) (⟨za1_0, na1_0, fa1_0⟩ : (Sl S_impl_Entry)), enc_bo, fun _ => true⟩ | _ => none
theorem hpc_c2 (fu : Nat) : ∀ f xs o, pcf_c2 fu f xs = some o → ∀ y, o.x = some y → Good E Try.prog f xs (o.g y) := by
  intro f xs o h
  unfold pcf_c2 at h
  split at h
  · exact good_c1 fu xs o h
  · cases h
theorem goodv_c2 (fu : Nat) (a_0 : (Sl S_impl_Entry)) (b_1 : (Sl S_impl_Entry)) (y : Bool) (hy : F_laws_eqEntryS fu a_0 b_1 = some y) : Good E Try.prog 50 [(.rs a_0.z .impl_Entry a_0.n a_0.f), (.rs b_1.z .impl_Entry b_1.n b_1.f)] (enc_bo y) :=
  fun_good E_ok (pc_good (pc := pc_c2 fu) (hpc_c2 fu) hpx0) (fn := Try.f50) (c := body_c2) (out := out_bo) (y := y) (by kernel_rfl) (by kernel_rfl) (by kernel_rfl) (lpok_c2 fu) (fun d hd => out_bo_enc d _ hd) ((ev_c2 fu a_0 b_1).trans hy)
theorem good_c2 (fu : Nat) : ∀ xs o, S_c2 fu xs = some o → ∀ y, o.x = some y → Good E Try.prog 50 xs (o.g y) := by
  intro xs o h y hy
  unfold S_c2 at h
  split at h
  · rename_i za0_0 na0_0 fa0_0 za1_0 na1_0 fa1_0
    cases h
    exact goodv_c2 fu (⟨za0_0, na0_0, fa0_0⟩ : (Sl S_impl_Entry)) (⟨za1_0, na1_0, fa1_0⟩ : (Sl S_impl_Entry)) y hy
  · cases h

/-! laws.eqEntriesResult -/
def F_laws_eqEntriesResult (fu : Nat) (a_0 : S_impl_EntriesResult) (b_1 : S_impl_EntriesResult) : Option (Bool) :=
  (bif (a_0.Code != b_1.Code) then (some false) else ((F_laws_eqEntryS fu a_0.Entries b_1.Entries).bind fun y423 => (bif (!y423) then (some false) else (some true))))
def pcf_c3 (fu : Nat) (f : Nat) (xs : List (D RT den)) : Option (Out RT den) := match f with | 50 => S_c2 fu xs | _ => none
def pc_c3 (fu : Nat) : Pc RT den := ⟨pcf_c3 fu, fun _ => false, fun _ => false, pcd0, pcx0⟩
def msk_c3 (b : Nat) : List Nat := []
def lp_c3 (fu : Nat) : Lp RT den (Bool) := fun b s k => none
theorem ev_c3 (fu : Nat) (a_0 : S_impl_EntriesResult) (b_1 : S_impl_EntriesResult) : evFun E (pc_c3 fu) msk_c3 (lp_c3 fu) out_bo 11 [(.agg [(.int .i64 a_0.Code), (.rs a_0.Entries.z .impl_Entry a_0.Entries.n a_0.Entries.f)]), (.agg [(.int .i64 b_1.Code), (.rs b_1.Entries.z .impl_Entry b_1.Entries.n b_1.Entries.f)])] = F_laws_eqEntriesResult fu a_0 b_1 := by kernel_rfl
noncomputable def body_c3 : Code := Try.f11.body.getD .skip
theorem lpok_c3 (fu : Nat) : LpOk E (pc_c3 fu) msk_c3 (lp_c3 fu) (loops 0 body_c3) := by
  have h : loops 0 body_c3 = [] := by kernel_rfl
  rw [h]; intro p hp; cases hp
def S_c3 (fu : Nat) (xs : List (D RT den)) : Option (Out RT den) := match xs with | [.agg [.int .i64 a0_1, .rs za0_2 .impl_Entry na0_2 fa0_2], .agg [.int .i64 a1_1, .rs za1_2 .impl_Entry na1_2 fa1_2]] => some ⟨Bool, F_laws_eqEntriesResult fu (⟨a0_1, (⟨za0_2, na0_2, fa0_2⟩ : (Sl S_impl_Entry))⟩ : S_impl_EntriesResult) (⟨a1_1, (⟨za1_2, na1_2, fa1_2⟩ : (Sl S_impl_Entry))⟩ : S_impl_EntriesResult), enc_bo, fun _ => true⟩ | _ => none
theorem hpc_c3 (fu : Nat) : ∀ f xs o, pcf_c3 fu f xs = some o → ∀ y, o.x = some y → Good E Try.prog f xs (o.g y) := by
  intro f xs o h
  unfold pcf_c3 at h
  split at h
  · exact good_c2 fu xs o h
  · cases h
theorem goodv_c3 (fu : Nat) (a_0 : S_impl_EntriesResult) (b_1 : S_impl_EntriesResult) (y : Bool) (hy : F_laws_eqEntriesResult fu a_0 b_1 = some y) : Good E Try.prog 11 [(.agg [(.int .i64 a_0.Code), (.rs a_0.Entries.z .impl_Entry a_0.Entries.n a_0.Entries.f)]), (.agg [(.int .i64 b_1.Code), (.rs b_1.Entries.z .impl_Entry b_1.Entries.n b_1.Entries.f)])] (enc_bo y) :=
  fun_good E_ok (pc_good (pc := pc_c3 fu) (hpc_c3 fu) hpx0) (fn := Try.f11) (c := body_c3) (out := out_bo) (y := y) (by kernel_rfl) (by kernel_rfl) (by kernel_rfl) (lpok_c3 fu) (fun d hd => out_bo_enc d _ hd) ((ev_c3 fu a_0 b_1).trans hy)
theorem good_c3 (fu : Nat) : ∀ xs o, S_c3 fu xs = some o → ∀ y, o.x = some y → Good E Try.prog 11 xs (o.g y) := by
  intro xs o h y hy
  unfold S_c3 at h
  split at h
  · rename_i a0_1 za0_2 na0_2 fa0_2 a1_1 za1_2 na1_2 fa1_2
    cases h
    exact goodv_c3 fu (⟨a0_1, (⟨za0_2, na0_2, fa0_2⟩ : (Sl S_impl_Entry))⟩ : S_impl_EntriesResult) (⟨a1_1, (⟨za1_2, na1_2, fa1_2⟩ : (Sl S_impl_Entry))⟩ : S_impl_EntriesResult) y hy
  · cases h

/-! laws.eqInt64S -/
def F_laws_eqInt64S_B0 {ρ : Type} (fu : Nat) (a0_0 : (Sl Int)) (b1_1 : (Sl Int)) (k0 : Option ρ) (k1 : Option ρ) (i5_2 : Int) (go : Int → Option ρ) : Option ρ :=
  (bif (decide (i5_2 < ((a0_0.n : Nat) : Int))) then ((bif (decide (0 ≤ i5_2) && decide ((Int.toNat i5_2) < a0_0.n)) then some () else none : Option Unit).bind fun _ => ((bif (decide (0 ≤ i5_2) &&
    decide ((Int.toNat i5_2) < b1_1.n)) then some () else none : Option Unit).bind fun _ => (bif ((a0_0.f (Int.toNat i5_2)) != (b1_1.f (Int.toNat i5_2))) then k0 else (go (IntKind.wrap .i64 (i5_2 + 1)))))) else
    k1)
def F_laws_eqInt64S (fu : Nat) (a_0 : (Sl Int)) (b_1 : (Sl Int)) : Option (Bool) :=
  (bif (((a_0.n : Nat) : Int) != ((b_1.n : Nat) : Int)) then (some false) else (L (fun w0 go0 => F_laws_eqInt64S_B0 fu a_0 b_1 (some false) (some true) w0 go0) fu (0 : Int)))
def pc_c4 (fu : Nat) : Pc RT den := ⟨pcf0, fun _ => false, fun _ => false, pcd0, pcx0⟩
def msk_c4 (b : Nat) : List Nat := match b with | 0 => [2, 3, 4, 6, 7, 8, 9, 10, 11, 12, 13, 14, 15, 16, 17, 18, 19, 20, 21, 22, 23, 24, 25] | 100000 => [0, 1, 2, 3, 5, 6, 7, 8, 9, 10, 11, 12, 13, 14, 15, 16, 17, 18, 19, 20, 21, 22, 23, 24, 25] | _ => []
def ps_c4_0 : List (Pat RT) := [.flat (.rs .i64), .flat (.rs .i64), .flat .q, .flat .q, .flat .q, .flat (.int .i64), .flat .q, .flat .q, .flat .q, .flat .q, .flat .q, .flat .q, .flat .q, .flat .q, .flat .q, .flat .q, .flat .q, .flat .q, .flat .q, .flat .q, .flat .q, .flat .q, .flat .q, .flat .q, .flat .q, .flat .q]
def os_c4_0 : List (OP RT) := []
def conv_c4_0 (r : Raw den ps_c4_0 os_c4_0) : ((Sl Int) × (Sl Int)) × (Int) := ((r.1.1, r.1.2.1), r.1.2.2.2.2.2.1)
def back_c4_0 (c : (Sl Int) × (Sl Int)) (w : Int) : St RT den := ⟨[(.rs c.1.z .i64 c.1.n c.1.f), (.rs c.2.z .i64 c.2.n c.2.f), .q, .q, .q, (.int .i64 w), .q, .q, .q, .q, .q, .q, .q, .q, .q, .q, .q, .q, .q, .q, .q, .q, .q, .q, .q, .q], []⟩
def Bk_c4_0 {ρ : Type} (fu : Nat) (c : (Sl Int) × (Sl Int)) (k : Ex → St RT den → Option ρ) (w : Int) (go : (Int) → Option ρ) : Option ρ := F_laws_eqInt64S_B0 fu c.1 c.2 (k .ret ⟨[.q, .q, .q, .q, (.bool false), .q, .q, .q, .q, .q, .q, .q, .q, .q, .q, .q, .q, .q, .q, .q, .q, .q, .q, .q, .q, .q], []⟩) (k (.exit 0) ⟨[.q, .q, .q, .q, .q, .q, .q, .q, .q, .q, .q, .q, .q, .q, .q, .q, .q, .q, .q, .q, .q, .q, .q, .q, .q, .q], []⟩) w go
def lp_c4 (fu : Nat) : Lp RT den (Bool) := fun b s k => match b with | 0 => handle ps_c4_0 os_c4_0 conv_c4_0 (Bk_c4_0 fu) fu s k | _ => none
theorem ev_c4 (fu : Nat) (a_0 : (Sl Int)) (b_1 : (Sl Int)) : evFun E (pc_c4 fu) msk_c4 (lp_c4 fu) out_bo 175 [(.rs a_0.z .i64 a_0.n a_0.f), (.rs b_1.z .i64 b_1.n b_1.f)] = F_laws_eqInt64S fu a_0 b_1 := by kernel_rfl
noncomputable def body_c4 : Code := Try.f175.body.getD .skip
noncomputable def lc_c4_0 : Code := ((loops 0 body_c4).getD 0 (0, .skip)).2
theorem round_c4_0 (fu : Nat) (it : St RT den → Option (Bool)) (k : Ex → St RT den → Option (Bool)) c w : evCode E (pc_c4 fu) msk_c4 (lp_c4 fu) 0 lc_c4_0 (back_c4_0 c w) (after (msk_c4 0) (msk_c4 100000) 0 it k) = Bk_c4_0 fu c k w (fun w => it (back_c4_0 c w)) := by kernel_rfl
theorem lpok_c4_0 (fu : Nat) : ∀ s k r, lp_c4 fu 0 s k = some r → ∃ fuel, iter (msk_c4 0) (msk_c4 100000) s.objs.length (evCode E (pc_c4 fu) msk_c4 (lp_c4 fu) 0 lc_c4_0) fuel s k = some r :=
  handle_ok (ps := ps_c4_0) (os := os_c4_0) (conv := conv_c4_0) (B := Bk_c4_0 fu) (fu := fu) back_c4_0 (fun raw => by kernel_rfl) 0 (fun c w => by kernel_rfl) (round_c4_0 fu)
theorem lpok_c4 (fu : Nat) : LpOk E (pc_c4 fu) msk_c4 (lp_c4 fu) (loops 0 body_c4) := loop_all 1 (by kernel_rfl) fun i hi => match i, hi with
  | 0, _ => by
    have h : (loops 0 body_c4).getD 0 (0, .skip) = (0, lc_c4_0) := by kernel_rfl
    rw [h]; exact lpok_c4_0 fu
  | i + 1, hi => absurd hi (by omega)
def S_c4 (fu : Nat) (xs : List (D RT den)) : Option (Out RT den) := match xs with | [.rs za0_0 .i64 na0_0 fa0_0, .rs za1_0 .i64 na1_0 fa1_0] => some ⟨Bool, F_laws_eqInt64S fu (⟨za0_0, na0_0, fa0_0⟩ : (Sl Int)) (⟨za1_0, na1_0, fa1_0⟩ : (Sl Int)), enc_bo, fun _ => true⟩ | _ => none
theorem goodv_c4 (fu : Nat) (a_0 : (Sl Int)) (b_1 : (Sl Int)) (y : Bool) (hy : F_laws_eqInt64S fu a_0 b_1 = some y) : Good E Try.prog 175 [(.rs a_0.z .i64 a_0.n a_0.f), (.rs b_1.z .i64 b_1.n b_1.f)] (enc_bo y) :=
  fun_good E_ok (pc_good (pc := pc_c4 fu) hpc0 hpx0) (fn := Try.f175) (c := body_c4) (out := out_bo) (y := y) (by kernel_rfl) (by kernel_rfl) (by kernel_rfl) (lpok_c4 fu) (fun d hd => out_bo_enc d _ hd) ((ev_c4 fu a_0 b_1).trans hy)
theorem good_c4 (fu : Nat) : ∀ xs o, S_c4 fu xs = some o → ∀ y, o.x = some y → Good E Try.prog 175 xs (o.g y) := by
  intro xs o h y hy
  unfold S_c4 at h
  split at h
  · rename_i za0_0 na0_0 fa0_0 za1_0 na1_0 fa1_0
    cases h
    exact goodv_c4 fu (⟨za0_0, na0_0, fa0_0⟩ : (Sl Int)) (⟨za1_0, na1_0, fa1_0⟩ : (Sl Int)) y hy
  · cases h

/-! laws.eqNode -/
def F_laws_eqNode (fu : Nat) (a_0 : S_impl_Node) (b_1 : S_impl_Node) : Option (Bool) :=
  (bif (a_0.Id != b_1.Id) then (some false) else (bif (a_0.Peers != b_1.Peers) then (some false) else (bif (a_0.Term != b_1.Term) then (some false) else (bif (a_0.Voted != b_1.Voted) then
    (some false) else ((F_laws_eqEntryS fu a_0.Log b_1.Log).bind fun y431 => (bif (!y431) then (some false) else (bif (a_0.Role != b_1.Role) then (some false) else (bif (a_0.Commit != b_1.Commit) then
    (some false) else ((F_laws_eqInt64S fu a_0.Votes b_1.Votes).bind fun y432 => (bif (!y432) then (some false) else ((F_laws_eqInt64S fu a_0.Next b_1.Next).bind fun y433 => (bif (!y433) then
    (some false) else ((F_laws_eqInt64S fu a_0.Match b_1.Match).bind fun y434 => (bif (!y434) then (some false) else (some true)))))))))))))))
def pcf_c5 (fu : Nat) (f : Nat) (xs : List (D RT den)) : Option (Out RT den) := match f with | 50 => S_c2 fu xs | 175 => S_c4 fu xs | _ => none
def pc_c5 (fu : Nat) : Pc RT den := ⟨pcf_c5 fu, fun _ => false, fun _ => false, pcd0, pcx0⟩
def msk_c5 (b : Nat) : List Nat := []
def lp_c5 (fu : Nat) : Lp RT den (Bool) := fun b s k => none
theorem ev_c5 (fu : Nat) (a_0 : S_impl_Node) (b_1 : S_impl_Node) : evFun E (pc_c5 fu) msk_c5 (lp_c5 fu) out_bo 118 [(.agg [(.int .i64 a_0.Id), (.int .i64 a_0.Peers), (.int .i64 a_0.Term), (.int .i64 a_0.Voted), (.rs a_0.Log.z .impl_Entry a_0.Log.n a_0.Log.f), (.int .i64 a_0.Role), (.int .i64 a_0.Commit), (.rs a_0.Votes.z .i64 a_0.Votes.n a_0.Votes.f), (.rs a_0.Next.z .i64 a_0.Next.n a_0.Next.f), (.rs a_0.Match.z .i64 a_0.Match.n a_0.Match.f)]), (.agg [(.int .i64 b_1.Id), (.int .i64 b_1.Peers), (.int .i64 b_1.Term), (.int .i64 b_1.Voted), (.rs b_1.Log.z .impl_Entry b_1.Log.n b_1.Log.f), (.int .i64 b_1.Role), (.int .i64 b_1.Commit), (.rs b_1.Votes.z .i64 b_1.Votes.n b_1.Votes.f), (.rs b_1.Next.z .i64 b_1.Next.n b_1.Next.f), (.rs b_1.Match.z .i64 b_1.Match.n b_1.Match.f)])] = F_laws_eqNode fu a_0 b_1 := by kernel_rfl
noncomputable def body_c5 : Code := Try.f118.body.getD .skip
theorem lpok_c5 (fu : Nat) : LpOk E (pc_c5 fu) msk_c5 (lp_c5 fu) (loops 0 body_c5) := by
  have h : loops 0 body_c5 = [] := by kernel_rfl
  rw [h]; intro p hp; cases hp
def S_c5 (fu : Nat) (xs : List (D RT den)) : Option (Out RT den) := match xs with | [.agg [.int .i64 a0_1, .int .i64 a0_2, .int .i64 a0_3, .int .i64 a0_4, .rs za0_5 .impl_Entry na0_5 fa0_5, .int .i64 a0_6, .int .i64 a0_7, .rs za0_8 .i64 na0_8 fa0_8, .rs za0_9 .i64 na0_9 fa0_9, .rs za0_10 .i64 na0_10 fa0_10], .agg [.int .i64 a1_1, .int .i64 a1_2, .int .i64 a1_3, .int .i64 a1_4, .rs za1_5 .impl_Entry na1_5 fa1_5, .int .i64 a1_6, .int .i64 a1_7, .rs za1_8 .i64 na1_8 fa1_8, .rs za1_9 .i64 na1_9 fa1_9, .rs za1_10 .i64 na1_10 fa1_10]] => some ⟨Bool, F_laws_eqNode fu (⟨a0_1, a0_2, a0_3, a0_4, (⟨za0_5, na0_5, fa0_5⟩ : (Sl S_impl_Entry)), a0_6, a0_7, (⟨za0_8, na0_8, fa0_8⟩ : (Sl Int)), (⟨za0_9, na0_9, fa0_9⟩ : (Sl Int)), (⟨za0_10, na0_10, fa0_10⟩ : (Sl Int))⟩ : S_impl_Node) (⟨a1_1, a1_2, a1_3, a1_4, (⟨za1_5, na1_5, fa1_5⟩ : (Sl S_impl_Entry)), a1_6, a1_7, (⟨za1_8, na1_8, fa1_8⟩ : (Sl Int)), (⟨za1_9, na1_9, fa1_9⟩ : (Sl Int)), (⟨za1_10, na1_10, fa1_10⟩ : (Sl Int))⟩ : S_impl_Node), enc_bo, fun _ => true⟩ | _ => none
theorem hpc_c5 (fu : Nat) : ∀ f xs o, pcf_c5 fu f xs = some o → ∀ y, o.x = some y → Good E Try.prog f xs (o.g y) := by
  intro f xs o h
  unfold pcf_c5 at h
  split at h
  · exact good_c2 fu xs o h
  · exact good_c4 fu xs o h
  · cases h
theorem goodv_c5 (fu : Nat) (a_0 : S_impl_Node) (b_1 : S_impl_Node) (y : Bool) (hy : F_laws_eqNode fu a_0 b_1 = some y) : Good E Try.prog 118 [(.agg [(.int .i64 a_0.Id), (.int .i64 a_0.Peers), (.int .i64 a_0.Term), (.int .i64 a_0.Voted), (.rs a_0.Log.z .impl_Entry a_0.Log.n a_0.Log.f), (.int .i64 a_0.Role), (.int .i64 a_0.Commit), (.rs a_0.Votes.z .i64 a_0.Votes.n a_0.Votes.f), (.rs a_0.Next.z .i64 a_0.Next.n a_0.Next.f), (.rs a_0.Match.z .i64 a_0.Match.n a_0.Match.f)]), (.agg [(.int .i64 b_1.Id), (.int .i64 b_1.Peers), (.int .i64 b_1.Term), (.int .i64 b_1.Voted), (.rs b_1.Log.z .impl_Entry b_1.Log.n b_1.Log.f), (.int .i64 b_1.Role), (.int .i64 b_1.Commit), (.rs b_1.Votes.z .i64 b_1.Votes.n b_1.Votes.f), (.rs b_1.Next.z .i64 b_1.Next.n b_1.Next.f), (.rs b_1.Match.z .i64 b_1.Match.n b_1.Match.f)])] (enc_bo y) :=
  fun_good E_ok (pc_good (pc := pc_c5 fu) (hpc_c5 fu) hpx0) (fn := Try.f118) (c := body_c5) (out := out_bo) (y := y) (by kernel_rfl) (by kernel_rfl) (by kernel_rfl) (lpok_c5 fu) (fun d hd => out_bo_enc d _ hd) ((ev_c5 fu a_0 b_1).trans hy)
theorem good_c5 (fu : Nat) : ∀ xs o, S_c5 fu xs = some o → ∀ y, o.x = some y → Good E Try.prog 118 xs (o.g y) := by
  intro xs o h y hy
  unfold S_c5 at h
  split at h
  · rename_i a0_1 a0_2 a0_3 a0_4 za0_5 na0_5 fa0_5 a0_6 a0_7 za0_8 na0_8 fa0_8 za0_9 na0_9 fa0_9 za0_10 na0_10 fa0_10 a1_1 a1_2 a1_3 a1_4 za1_5 na1_5 fa1_5 a1_6 a1_7 za1_8 na1_8 fa1_8 za1_9 na1_9 fa1_9 za1_10 na1_10 fa1_10
    cases h
    exact goodv_c5 fu (⟨a0_1, a0_2, a0_3, a0_4, (⟨za0_5, na0_5, fa0_5⟩ : (Sl S_impl_Entry)), a0_6, a0_7, (⟨za0_8, na0_8, fa0_8⟩ : (Sl Int)), (⟨za0_9, na0_9, fa0_9⟩ : (Sl Int)), (⟨za0_10, na0_10, fa0_10⟩ : (Sl Int))⟩ : S_impl_Node) (⟨a1_1, a1_2, a1_3, a1_4, (⟨za1_5, na1_5, fa1_5⟩ : (Sl S_impl_Entry)), a1_6, a1_7, (⟨za1_8, na1_8, fa1_8⟩ : (Sl Int)), (⟨za1_9, na1_9, fa1_9⟩ : (Sl Int)), (⟨za1_10, na1_10, fa1_10⟩ : (Sl Int))⟩ : S_impl_Node) y hy
  · cases h

/-! laws.eqNodeS -/
def F_laws_eqNodeS_B0 {ρ : Type} (fu : Nat) (a0_0 : (Sl S_impl_Node)) (b1_1 : (Sl S_impl_Node)) (k0 : Option ρ) (k1 : Option ρ) (i5_2 : Int) (go : Int → Option ρ) : Option ρ :=
  (bif (decide (i5_2 < ((a0_0.n : Nat) : Int))) then ((bif (decide (0 ≤ i5_2) && decide ((Int.toNat i5_2) < a0_0.n)) then some () else none : Option Unit).bind fun _ => ((bif (decide (0 ≤ i5_2) &&
    decide ((Int.toNat i5_2) < b1_1.n)) then some () else none : Option Unit).bind fun _ => ((F_laws_eqNode fu (a0_0.f (Int.toNat i5_2)) (b1_1.f (Int.toNat i5_2))).bind fun y430 =>
    (bif (!y430) then k0 else (go (IntKind.wrap .i64 (i5_2 + 1))))))) else k1)
def F_laws_eqNodeS (fu : Nat) (a_0 : (Sl S_impl_Node)) (b_1 : (Sl S_impl_Node)) : Option (Bool) :=
  (bif (((a_0.n : Nat) : Int) != ((b_1.n : Nat) : Int)) then (some false) else (L (fun w0 go0 => F_laws_eqNodeS_B0 fu a_0 b_1 (some false) (some true) w0 go0) fu (0 : Int)))
def pcf_c6 (fu : Nat) (f : Nat) (xs : List (D RT den)) : Option (Out RT den) := match f with | 118 => S_c5 fu xs | _ => none
def pc_c6 (fu : Nat) : Pc RT den := ⟨pcf_c6 fu, fun _ => false, fun _ => false, pcd0, pcx0⟩
def msk_c6 (b : Nat) : List Nat := match b with | 0 => [2, 3, 4, 6, 7, 8, 9, 10, 11, 12, 13, 14, 15, 16, 17, 18, 19, 20, 21, 22, 23, 24, 25, 26] | 100000 => [0, 1, 2, 3, 5, 6, 7, 8, 9, 10, 11, 12, 13, 14, 15, 16, 17, 18, 19, 20, 21, 22, 23, 24, 25, 26] | _ => []
def ps_c6_0 : List (Pat RT) := [.flat (.rs .impl_Node), .flat (.rs .impl_Node), .flat .q, .flat .q, .flat .q, .flat (.int .i64), .flat .q, .flat .q, .flat .q, .flat .q, .flat .q, .flat .q, .flat .q, .flat .q, .flat .q, .flat .q, .flat .q, .flat .q, .flat .q, .flat .q, .flat .q, .flat .q, .flat .q, .flat .q, .flat .q, .flat .q, .flat .q]
def os_c6_0 : List (OP RT) := []
def conv_c6_0 (r : Raw den ps_c6_0 os_c6_0) : ((Sl S_impl_Node) × (Sl S_impl_Node)) × (Int) := ((r.1.1, r.1.2.1), r.1.2.2.2.2.2.1)
def back_c6_0 (c : (Sl S_impl_Node) × (Sl S_impl_Node)) (w : Int) : St RT den := ⟨[(.rs c.1.z .impl_Node c.1.n c.1.f), (.rs c.2.z .impl_Node c.2.n c.2.f), .q, .q, .q, (.int .i64 w), .q, .q, .q, .q, .q, .q, .q, .q, .q, .q, .q, .q, .q, .q, .q, .q, .q, .q, .q, .q, .q], []⟩
def Bk_c6_0 {ρ : Type} (fu : Nat) (c : (Sl S_impl_Node) × (Sl S_impl_Node)) (k : Ex → St RT den → Option ρ) (w : Int) (go : (Int) → Option ρ) : Option ρ := F_laws_eqNodeS_B0 fu c.1 c.2 (k .ret ⟨[.q, .q, .q, .q, (.bool false), .q, .q, .q, .q, .q, .q, .q, .q, .q, .q, .q, .q, .q, .q, .q, .q, .q, .q, .q, .q, .q, .q], []⟩) (k (.exit 0) ⟨[.q, .q, .q, .q, .q, .q, .q, .q, .q, .q, .q, .q, .q, .q, .q, .q, .q, .q, .q, .q, .q, .q, .q, .q, .q, .q, .q], []⟩) w go
def lp_c6 (fu : Nat) : Lp RT den (Bool) := fun b s k => match b with | 0 => handle ps_c6_0 os_c6_0 conv_c6_0 (Bk_c6_0 fu) fu s k | _ => none
theorem ev_c6 (fu : Nat) (a_0 : (Sl S_impl_Node)) (b_1 : (Sl S_impl_Node)) : evFun E (pc_c6 fu) msk_c6 (lp_c6 fu) out_bo 51 [(.rs a_0.z .impl_Node a_0.n a_0.f), (.rs b_1.z .impl_Node b_1.n b_1.f)] = F_laws_eqNodeS fu a_0 b_1 := by kernel_rfl
noncomputable def body_c6 : Code := Try.f51.body.getD .skip
noncomputable def lc_c6_0 : Code := ((loops 0 body_c6).getD 0 (0, .skip)).2
theorem round_c6_0 (fu : Nat) (it : St RT den → Option (Bool)) (k : Ex → St RT den → Option (Bool)) c w : evCode E (pc_c6 fu) msk_c6 (lp_c6 fu) 0 lc_c6_0 (back_c6_0 c w) (after (msk_c6 0) (msk_c6 100000) 0 it k) = Bk_c6_0 fu c k w (fun w => it (back_c6_0 c w)) := by kernel_rfl
theorem lpok_c6_0 (fu : Nat) : ∀ s k r, lp_c6 fu 0 s k = some r → ∃ fuel, iter (msk_c6 0) (msk_c6 100000) s.objs.length (evCode E (pc_c6 fu) msk_c6 (lp_c6 fu) 0 lc_c6_0) fuel s k = some r :=
  handle_ok (ps := ps_c6_0) (os := os_c6_0) (conv := conv_c6_0) (B := Bk_c6_0 fu) (fu := fu) back_c6_0 (fun raw => by kernel_rfl) 0 (fun c w => by kernel_rfl) (round_c6_0 fu)
theorem lpok_c6 (fu : Nat) : LpOk E (pc_c6 fu) msk_c6 (lp_c6 fu) (loops 0 body_c6) := loop_all 1 (by kernel_rfl) fun i hi => match i, hi with
  | 0, _ => by
    have h : (loops 0 body_c6).getD 0 (0, .skip) = (0, lc_c6_0) := by kernel_rfl
    rw [h]; exact lpok_c6_0 fu
  | i + 1, hi => absurd hi (by omega)
def S_c6 (fu : Nat) (xs : List (D RT den)) : Option (Out RT den) := match xs with | [.rs za0_0 .impl_Node na0_0 fa0_0, .rs za1_0 .impl_Node na1_0 fa1_0] => some ⟨Bool, F_laws_eqNodeS fu (⟨za0_0, na0_0, fa0_0⟩ : (Sl S_impl_Node)) (⟨za1_0, na1_0, fa1_0⟩ : (Sl S_impl_Node)), enc_bo, fun _ => true⟩ | _ => none
theorem hpc_c6 (fu : Nat) : ∀ f xs o, pcf_c6 fu f xs = some o → ∀ y, o.x = some y → Good E Try.prog f xs (o.g y) := by
  intro f xs o h
  unfold pcf_c6 at h
  split at h
  · exact good_c5 fu xs o h
  · cases h
theorem goodv_c6 (fu : Nat) (a_0 : (Sl S_impl_Node)) (b_1 : (Sl S_impl_Node)) (y : Bool) (hy : F_laws_eqNodeS fu a_0 b_1 = some y) : Good E Try.prog 51 [(.rs a_0.z .impl_Node a_0.n a_0.f), (.rs b_1.z .impl_Node b_1.n b_1.f)] (enc_bo y) :=
  fun_good E_ok (pc_good (pc := pc_c6 fu) (hpc_c6 fu) hpx0) (fn := Try.f51) (c := body_c6) (out := out_bo) (y := y) (by kernel_rfl) (by kernel_rfl) (by kernel_rfl) (lpok_c6 fu) (fun d hd => out_bo_enc d _ hd) ((ev_c6 fu a_0 b_1).trans hy)
theorem good_c6 (fu : Nat) : ∀ xs o, S_c6 fu xs = some o → ∀ y, o.x = some y → Good E Try.prog 51 xs (o.g y) := by
  intro xs o h y hy
  unfold S_c6 at h
  split at h
  · rename_i za0_0 na0_0 fa0_0 za1_0 na1_0 fa1_0
    cases h
    exact goodv_c6 fu (⟨za0_0, na0_0, fa0_0⟩ : (Sl S_impl_Node)) (⟨za1_0, na1_0, fa1_0⟩ : (Sl S_impl_Node)) y hy
  · cases h

/-! laws.eqMail -/
def F_laws_eqMail (fu : Nat) (a_0 : S_impl_Mail) (b_1 : S_impl_Mail) : Option (Bool) :=
  (bif (a_0.Kind != b_1.Kind) then (some false) else (bif (a_0.From != b_1.From) then (some false) else (bif (a_0.To != b_1.To) then (some false) else (bif (a_0.Term != b_1.Term) then
    (some false) else (bif (a_0.Index != b_1.Index) then (some false) else (bif (a_0.Last != b_1.Last) then (some false) else (bif (a_0.Commit != b_1.Commit) then (some false) else
    (bif (!(a_0.Ok == b_1.Ok)) then (some false) else ((F_laws_eqEntryS fu a_0.Entries b_1.Entries).bind fun y436 => (bif (!y436) then (some false) else (some true)))))))))))
def pcf_c7 (fu : Nat) (f : Nat) (xs : List (D RT den)) : Option (Out RT den) := match f with | 50 => S_c2 fu xs | _ => none
def pc_c7 (fu : Nat) : Pc RT den := ⟨pcf_c7 fu, fun _ => false, fun _ => false, pcd0, pcx0⟩
def msk_c7 (b : Nat) : List Nat := []
def lp_c7 (fu : Nat) : Lp RT den (Bool) := fun b s k => none
theorem ev_c7 (fu : Nat) (a_0 : S_impl_Mail) (b_1 : S_impl_Mail) : evFun E (pc_c7 fu) msk_c7 (lp_c7 fu) out_bo 119 [(.agg [(.int .i64 a_0.Kind), (.int .i64 a_0.From), (.int .i64 a_0.To), (.int .i64 a_0.Term), (.int .i64 a_0.Index), (.int .i64 a_0.Last), (.int .i64 a_0.Commit), (.bool a_0.Ok), (.rs a_0.Entries.z .impl_Entry a_0.Entries.n a_0.Entries.f)]), (.agg [(.int .i64 b_1.Kind), (.int .i64 b_1.From), (.int .i64 b_1.To), (.int .i64 b_1.Term), (.int .i64 b_1.Index), (.int .i64 b_1.Last), (.int .i64 b_1.Commit), (.bool b_1.Ok), (.rs b_1.Entries.z .impl_Entry b_1.Entries.n b_1.Entries.f)])] = F_laws_eqMail fu a_0 b_1 := by kernel_rfl
noncomputable def body_c7 : Code := Try.f119.body.getD .skip
theorem lpok_c7 (fu : Nat) : LpOk E (pc_c7 fu) msk_c7 (lp_c7 fu) (loops 0 body_c7) := by
  have h : loops 0 body_c7 = [] := by kernel_rfl
  rw [h]; intro p hp; cases hp
def S_c7 (fu : Nat) (xs : List (D RT den)) : Option (Out RT den) := match xs with | [.agg [.int .i64 a0_1, .int .i64 a0_2, .int .i64 a0_3, .int .i64 a0_4, .int .i64 a0_5, .int .i64 a0_6, .int .i64 a0_7, .bool a0_8, .rs za0_9 .impl_Entry na0_9 fa0_9], .agg [.int .i64 a1_1, .int .i64 a1_2, .int .i64 a1_3, .int .i64 a1_4, .int .i64 a1_5, .int .i64 a1_6, .int .i64 a1_7, .bool a1_8, .rs za1_9 .impl_Entry na1_9 fa1_9]] => some ⟨Bool, F_laws_eqMail fu (⟨a0_1, a0_2, a0_3, a0_4, a0_5, a0_6, a0_7, a0_8, (⟨za0_9, na0_9, fa0_9⟩ : (Sl S_impl_Entry))⟩ : S_impl_Mail) (⟨a1_1, a1_2, a1_3, a1_4, a1_5, a1_6, a1_7, a1_8, (⟨za1_9, na1_9, fa1_9⟩ : (Sl S_impl_Entry))⟩ : S_impl_Mail), enc_bo, fun _ => true⟩ | _ => none
theorem hpc_c7 (fu : Nat) : ∀ f xs o, pcf_c7 fu f xs = some o → ∀ y, o.x = some y → Good E Try.prog f xs (o.g y) := by
  intro f xs o h
  unfold pcf_c7 at h
  split at h
  · exact good_c2 fu xs o h
  · cases h
theorem goodv_c7 (fu : Nat) (a_0 : S_impl_Mail) (b_1 : S_impl_Mail) (y : Bool) (hy : F_laws_eqMail fu a_0 b_1 = some y) : Good E Try.prog 119 [(.agg [(.int .i64 a_0.Kind), (.int .i64 a_0.From), (.int .i64 a_0.To), (.int .i64 a_0.Term), (.int .i64 a_0.Index), (.int .i64 a_0.Last), (.int .i64 a_0.Commit), (.bool a_0.Ok), (.rs a_0.Entries.z .impl_Entry a_0.Entries.n a_0.Entries.f)]), (.agg [(.int .i64 b_1.Kind), (.int .i64 b_1.From), (.int .i64 b_1.To), (.int .i64 b_1.Term), (.int .i64 b_1.Index), (.int .i64 b_1.Last), (.int .i64 b_1.Commit), (.bool b_1.Ok), (.rs b_1.Entries.z .impl_Entry b_1.Entries.n b_1.Entries.f)])] (enc_bo y) :=
  fun_good E_ok (pc_good (pc := pc_c7 fu) (hpc_c7 fu) hpx0) (fn := Try.f119) (c := body_c7) (out := out_bo) (y := y) (by kernel_rfl) (by kernel_rfl) (by kernel_rfl) (lpok_c7 fu) (fun d hd => out_bo_enc d _ hd) ((ev_c7 fu a_0 b_1).trans hy)
theorem good_c7 (fu : Nat) : ∀ xs o, S_c7 fu xs = some o → ∀ y, o.x = some y → Good E Try.prog 119 xs (o.g y) := by
  intro xs o h y hy
  unfold S_c7 at h
  split at h
  · rename_i a0_1 a0_2 a0_3 a0_4 a0_5 a0_6 a0_7 a0_8 za0_9 na0_9 fa0_9 a1_1 a1_2 a1_3 a1_4 a1_5 a1_6 a1_7 a1_8 za1_9 na1_9 fa1_9
    cases h
    exact goodv_c7 fu (⟨a0_1, a0_2, a0_3, a0_4, a0_5, a0_6, a0_7, a0_8, (⟨za0_9, na0_9, fa0_9⟩ : (Sl S_impl_Entry))⟩ : S_impl_Mail) (⟨a1_1, a1_2, a1_3, a1_4, a1_5, a1_6, a1_7, a1_8, (⟨za1_9, na1_9, fa1_9⟩ : (Sl S_impl_Entry))⟩ : S_impl_Mail) y hy
  · cases h

/-! laws.eqMailS -/
def F_laws_eqMailS_B0 {ρ : Type} (fu : Nat) (a0_0 : (Sl S_impl_Mail)) (b1_1 : (Sl S_impl_Mail)) (k0 : Option ρ) (k1 : Option ρ) (i5_2 : Int) (go : Int → Option ρ) : Option ρ :=
  (bif (decide (i5_2 < ((a0_0.n : Nat) : Int))) then ((bif (decide (0 ≤ i5_2) && decide ((Int.toNat i5_2) < a0_0.n)) then some () else none : Option Unit).bind fun _ => ((bif (decide (0 ≤ i5_2) &&
    decide ((Int.toNat i5_2) < b1_1.n)) then some () else none : Option Unit).bind fun _ => ((F_laws_eqMail fu (a0_0.f (Int.toNat i5_2)) (b1_1.f (Int.toNat i5_2))).bind fun y435 =>
    (bif (!y435) then k0 else (go (IntKind.wrap .i64 (i5_2 + 1))))))) else k1)
def F_laws_eqMailS (fu : Nat) (a_0 : (Sl S_impl_Mail)) (b_1 : (Sl S_impl_Mail)) : Option (Bool) :=
  (bif (((a_0.n : Nat) : Int) != ((b_1.n : Nat) : Int)) then (some false) else (L (fun w0 go0 => F_laws_eqMailS_B0 fu a_0 b_1 (some false) (some true) w0 go0) fu (0 : Int)))
def pcf_c8 (fu : Nat) (f : Nat) (xs : List (D RT den)) : Option (Out RT den) := match f with | 119 => S_c7 fu xs | _ => none
def pc_c8 (fu : Nat) : Pc RT den := ⟨pcf_c8 fu, fun _ => false, fun _ => false, pcd0, pcx0⟩
def msk_c8 (b : Nat) : List Nat := match b with | 0 => [2, 3, 4, 6, 7, 8, 9, 10, 11, 12, 13, 14, 15, 16, 17, 18, 19, 20, 21, 22, 23, 24, 25, 26] | 100000 => [0, 1, 2, 3, 5, 6, 7, 8, 9, 10, 11, 12, 13, 14, 15, 16, 17, 18, 19, 20, 21, 22, 23, 24, 25, 26] | _ => []
def ps_c8_0 : List (Pat RT) := [.flat (.rs .impl_Mail), .flat (.rs .impl_Mail), .flat .q, .flat .q, .flat .q, .flat (.int .i64), .flat .q, .flat .q, .flat .q, .flat .q, .flat .q, .flat .q, .flat .q, .flat .q, .flat .q, .flat .q, .flat .q, .flat .q, .flat .q, .flat .q, .flat .q, .flat .q, .flat .q, .flat .q, .flat .q, .flat .q, .flat .q]
def os_c8_0 : List (OP RT) := []
def conv_c8_0 (r : Raw den ps_c8_0 os_c8_0) : ((Sl S_impl_Mail) × (Sl S_impl_Mail)) × (Int) := ((r.1.1, r.1.2.1), r.1.2.2.2.2.2.1)
def back_c8_0 (c : (Sl S_impl_Mail) × (Sl S_impl_Mail)) (w : Int) : St RT den := ⟨[(.rs c.1.z .impl_Mail c.1.n c.1.f), (.rs c.2.z .impl_Mail c.2.n c.2.f), .q, .q, .q, (.int .i64 w), .q, .q, .q, .q, .q, .q, .q, .q, .q, .q, .q, .q, .q, .q, .q, .q, .q, .q, .q, .q, .q], []⟩
def Bk_c8_0 {ρ : Type} (fu : Nat) (c : (Sl S_impl_Mail) × (Sl S_impl_Mail)) (k : Ex → St RT den → Option ρ) (w : Int) (go : (Int) → Option ρ) : Option ρ := F_laws_eqMailS_B0 fu c.1 c.2 (k .ret ⟨[.q, .q, .q, .q, (.bool false), .q, .q, .q, .q, .q, .q, .q, .q, .q, .q, .q, .q, .q, .q, .q, .q, .q, .q, .q, .q, .q, .q], []⟩) (k (.exit 0) ⟨[.q, .q, .q, .q, .q, .q, .q, .q, .q, .q, .q, .q, .q, .q, .q, .q, .q, .q, .q, .q, .q, .q, .q, .q, .q, .q, .q], []⟩) w go
def lp_c8 (fu : Nat) : Lp RT den (Bool) := fun b s k => match b with | 0 => handle ps_c8_0 os_c8_0 conv_c8_0 (Bk_c8_0 fu) fu s k | _ => none
theorem ev_c8 (fu : Nat) (a_0 : (Sl S_impl_Mail)) (b_1 : (Sl S_impl_Mail)) : evFun E (pc_c8 fu) msk_c8 (lp_c8 fu) out_bo 52 [(.rs a_0.z .impl_Mail a_0.n a_0.f), (.rs b_1.z .impl_Mail b_1.n b_1.f)] = F_laws_eqMailS fu a_0 b_1 := by kernel_rfl
noncomputable def body_c8 : Code := Try.f52.body.getD .skip
noncomputable def lc_c8_0 : Code := ((loops 0 body_c8).getD 0 (0, .skip)).2
theorem round_c8_0 (fu : Nat) (it : St RT den → Option (Bool)) (k : Ex → St RT den → Option (Bool)) c w : evCode E (pc_c8 fu) msk_c8 (lp_c8 fu) 0 lc_c8_0 (back_c8_0 c w) (after (msk_c8 0) (msk_c8 100000) 0 it k) = Bk_c8_0 fu c k w (fun w => it (back_c8_0 c w)) := by kernel_rfl
theorem lpok_c8_0 (fu : Nat) : ∀ s k r, lp_c8 fu 0 s k = some r → ∃ fuel, iter (msk_c8 0) (msk_c8 100000) s.objs.length (evCode E (pc_c8 fu) msk_c8 (lp_c8 fu) 0 lc_c8_0) fuel s k = some r :=
  handle_ok (ps := ps_c8_0) (os := os_c8_0) (conv := conv_c8_0) (B := Bk_c8_0 fu) (fu := fu) back_c8_0 (fun raw => by kernel_rfl) 0 (fun c w => by kernel_rfl) (round_c8_0 fu)
theorem lpok_c8 (fu : Nat) : LpOk E (pc_c8 fu) msk_c8 (lp_c8 fu) (loops 0 body_c8) := loop_all 1 (by kernel_rfl) fun i hi => match i, hi with
  | 0, _ => by
    have h : (loops 0 body_c8).getD 0 (0, .skip) = (0, lc_c8_0) := by kernel_rfl
    rw [h]; exact lpok_c8_0 fu
  | i + 1, hi => absurd hi (by omega)
def S_c8 (fu : Nat) (xs : List (D RT den)) : Option (Out RT den) := match xs with | [.rs za0_0 .impl_Mail na0_0 fa0_0, .rs za1_0 .impl_Mail na1_0 fa1_0] => some ⟨Bool, F_laws_eqMailS fu (⟨za0_0, na0_0, fa0_0⟩ : (Sl S_impl_Mail)) (⟨za1_0, na1_0, fa1_0⟩ : (Sl S_impl_Mail)), enc_bo, fun _ => true⟩ | _ => none
theorem hpc_c8 (fu : Nat) : ∀ f xs o, pcf_c8 fu f xs = some o → ∀ y, o.x = some y → Good E Try.prog f xs (o.g y) := by
  intro f xs o h
  unfold pcf_c8 at h
  split at h
  · exact good_c7 fu xs o h
  · cases h
theorem goodv_c8 (fu : Nat) (a_0 : (Sl S_impl_Mail)) (b_1 : (Sl S_impl_Mail)) (y : Bool) (hy : F_laws_eqMailS fu a_0 b_1 = some y) : Good E Try.prog 52 [(.rs a_0.z .impl_Mail a_0.n a_0.f), (.rs b_1.z .impl_Mail b_1.n b_1.f)] (enc_bo y) :=
  fun_good E_ok (pc_good (pc := pc_c8 fu) (hpc_c8 fu) hpx0) (fn := Try.f52) (c := body_c8) (out := out_bo) (y := y) (by kernel_rfl) (by kernel_rfl) (by kernel_rfl) (lpok_c8 fu) (fun d hd => out_bo_enc d _ hd) ((ev_c8 fu a_0 b_1).trans hy)
theorem good_c8 (fu : Nat) : ∀ xs o, S_c8 fu xs = some o → ∀ y, o.x = some y → Good E Try.prog 52 xs (o.g y) := by
  intro xs o h y hy
  unfold S_c8 at h
  split at h
  · rename_i za0_0 na0_0 fa0_0 za1_0 na1_0 fa1_0
    cases h
    exact goodv_c8 fu (⟨za0_0, na0_0, fa0_0⟩ : (Sl S_impl_Mail)) (⟨za1_0, na1_0, fa1_0⟩ : (Sl S_impl_Mail)) y hy
  · cases h

/-! laws.eqWon -/
def F_laws_eqWon (fu : Nat) (a_0 : S_impl_Won) (b_1 : S_impl_Won) : Option (Bool) :=
  (bif (a_0.Term != b_1.Term) then (some false) else (bif (a_0.Node != b_1.Node) then (some false) else (some true)))
def pc_c9 (fu : Nat) : Pc RT den := ⟨pcf0, fun _ => false, fun _ => false, pcd0, pcx0⟩
def msk_c9 (b : Nat) : List Nat := []
def lp_c9 (fu : Nat) : Lp RT den (Bool) := fun b s k => none
theorem ev_c9 (fu : Nat) (a_0 : S_impl_Won) (b_1 : S_impl_Won) : evFun E (pc_c9 fu) msk_c9 (lp_c9 fu) out_bo 120 [(.agg [(.int .i64 a_0.Term), (.int .i64 a_0.Node)]), (.agg [(.int .i64 b_1.Term), (.int .i64 b_1.Node)])] = F_laws_eqWon fu a_0 b_1 := by kernel_rfl
noncomputable def body_c9 : Code := Try.f120.body.getD .skip
theorem lpok_c9 (fu : Nat) : LpOk E (pc_c9 fu) msk_c9 (lp_c9 fu) (loops 0 body_c9) := by
  have h : loops 0 body_c9 = [] := by kernel_rfl
  rw [h]; intro p hp; cases hp
def S_c9 (fu : Nat) (xs : List (D RT den)) : Option (Out RT den) := match xs with | [.agg [.int .i64 a0_1, .int .i64 a0_2], .agg [.int .i64 a1_1, .int .i64 a1_2]] => some ⟨Bool, F_laws_eqWon fu (⟨a0_1, a0_2⟩ : S_impl_Won) (⟨a1_1, a1_2⟩ : S_impl_Won), enc_bo, fun _ => true⟩ | _ => none
theorem goodv_c9 (fu : Nat) (a_0 : S_impl_Won) (b_1 : S_impl_Won) (y : Bool) (hy : F_laws_eqWon fu a_0 b_1 = some y) : Good E Try.prog 120 [(.agg [(.int .i64 a_0.Term), (.int .i64 a_0.Node)]), (.agg [(.int .i64 b_1.Term), (.int .i64 b_1.Node)])] (enc_bo y) :=
  fun_good E_ok (pc_good (pc := pc_c9 fu) hpc0 hpx0) (fn := Try.f120) (c := body_c9) (out := out_bo) (y := y) (by kernel_rfl) (by kernel_rfl) (by kernel_rfl) (lpok_c9 fu) (fun d hd => out_bo_enc d _ hd) ((ev_c9 fu a_0 b_1).trans hy)
theorem good_c9 (fu : Nat) : ∀ xs o, S_c9 fu xs = some o → ∀ y, o.x = some y → Good E Try.prog 120 xs (o.g y) := by
  intro xs o h y hy
  unfold S_c9 at h
  split at h
  · rename_i a0_1 a0_2 a1_1 a1_2
    cases h
    exact goodv_c9 fu (⟨a0_1, a0_2⟩ : S_impl_Won) (⟨a1_1, a1_2⟩ : S_impl_Won) y hy
  · cases h

/-! laws.eqWonS -/
def F_laws_eqWonS_B0 {ρ : Type} (fu : Nat) (a0_0 : (Sl S_impl_Won)) (b1_1 : (Sl S_impl_Won)) (k0 : Option ρ) (k1 : Option ρ) (i5_2 : Int) (go : Int → Option ρ) : Option ρ :=
  (bif (decide (i5_2 < ((a0_0.n : Nat) : Int))) then ((bif (decide (0 ≤ i5_2) && decide ((Int.toNat i5_2) < a0_0.n)) then some () else none : Option Unit).bind fun _ => ((bif (decide (0 ≤ i5_2) &&
    decide ((Int.toNat i5_2) < b1_1.n)) then some () else none : Option Unit).bind fun _ => ((F_laws_eqWon fu (a0_0.f (Int.toNat i5_2)) (b1_1.f (Int.toNat i5_2))).bind fun y437 =>
    (bif (!y437) then k0 else (go (IntKind.wrap .i64 (i5_2 + 1))))))) else k1)
def F_laws_eqWonS (fu : Nat) (a_0 : (Sl S_impl_Won)) (b_1 : (Sl S_impl_Won)) : Option (Bool) :=
  (bif (((a_0.n : Nat) : Int) != ((b_1.n : Nat) : Int)) then (some false) else (L (fun w0 go0 => F_laws_eqWonS_B0 fu a_0 b_1 (some false) (some true) w0 go0) fu (0 : Int)))
def pcf_c10 (fu : Nat) (f : Nat) (xs : List (D RT den)) : Option (Out RT den) := match f with | 120 => S_c9 fu xs | _ => none
def pc_c10 (fu : Nat) : Pc RT den := ⟨pcf_c10 fu, fun _ => false, fun _ => false, pcd0, pcx0⟩
def msk_c10 (b : Nat) : List Nat := match b with | 0 => [2, 3, 4, 6, 7, 8, 9, 10, 11, 12, 13, 14, 15, 16, 17, 18, 19, 20, 21, 22, 23, 24, 25, 26] | 100000 => [0, 1, 2, 3, 5, 6, 7, 8, 9, 10, 11, 12, 13, 14, 15, 16, 17, 18, 19, 20, 21, 22, 23, 24, 25, 26] | _ => []
def ps_c10_0 : List (Pat RT) := [.flat (.rs .impl_Won), .flat (.rs .impl_Won), .flat .q, .flat .q, .flat .q, .flat (.int .i64), .flat .q, .flat .q, .flat .q, .flat .q, .flat .q, .flat .q, .flat .q, .flat .q, .flat .q, .flat .q, .flat .q, .flat .q, .flat .q, .flat .q, .flat .q, .flat .q, .flat .q, .flat .q, .flat .q, .flat .q, .flat .q]
def os_c10_0 : List (OP RT) := []
def conv_c10_0 (r : Raw den ps_c10_0 os_c10_0) : ((Sl S_impl_Won) × (Sl S_impl_Won)) × (Int) := ((r.1.1, r.1.2.1), r.1.2.2.2.2.2.1)
def back_c10_0 (c : (Sl S_impl_Won) × (Sl S_impl_Won)) (w : Int) : St RT den := ⟨[(.rs c.1.z .impl_Won c.1.n c.1.f), (.rs c.2.z .impl_Won c.2.n c.2.f), .q, .q, .q, (.int .i64 w), .q, .q, .q, .q, .q, .q, .q, .q, .q, .q, .q, .q, .q, .q, .q, .q, .q, .q, .q, .q, .q], []⟩
def Bk_c10_0 {ρ : Type} (fu : Nat) (c : (Sl S_impl_Won) × (Sl S_impl_Won)) (k : Ex → St RT den → Option ρ) (w : Int) (go : (Int) → Option ρ) : Option ρ := F_laws_eqWonS_B0 fu c.1 c.2 (k .ret ⟨[.q, .q, .q, .q, (.bool false), .q, .q, .q, .q, .q, .q, .q, .q, .q, .q, .q, .q, .q, .q, .q, .q, .q, .q, .q, .q, .q, .q], []⟩) (k (.exit 0) ⟨[.q, .q, .q, .q, .q, .q, .q, .q, .q, .q, .q, .q, .q, .q, .q, .q, .q, .q, .q, .q, .q, .q, .q, .q, .q, .q, .q], []⟩) w go
def lp_c10 (fu : Nat) : Lp RT den (Bool) := fun b s k => match b with | 0 => handle ps_c10_0 os_c10_0 conv_c10_0 (Bk_c10_0 fu) fu s k | _ => none
theorem ev_c10 (fu : Nat) (a_0 : (Sl S_impl_Won)) (b_1 : (Sl S_impl_Won)) : evFun E (pc_c10 fu) msk_c10 (lp_c10 fu) out_bo 53 [(.rs a_0.z .impl_Won a_0.n a_0.f), (.rs b_1.z .impl_Won b_1.n b_1.f)] = F_laws_eqWonS fu a_0 b_1 := by kernel_rfl
noncomputable def body_c10 : Code := Try.f53.body.getD .skip
noncomputable def lc_c10_0 : Code := ((loops 0 body_c10).getD 0 (0, .skip)).2
theorem round_c10_0 (fu : Nat) (it : St RT den → Option (Bool)) (k : Ex → St RT den → Option (Bool)) c w : evCode E (pc_c10 fu) msk_c10 (lp_c10 fu) 0 lc_c10_0 (back_c10_0 c w) (after (msk_c10 0) (msk_c10 100000) 0 it k) = Bk_c10_0 fu c k w (fun w => it (back_c10_0 c w)) := by kernel_rfl
theorem lpok_c10_0 (fu : Nat) : ∀ s k r, lp_c10 fu 0 s k = some r → ∃ fuel, iter (msk_c10 0) (msk_c10 100000) s.objs.length (evCode E (pc_c10 fu) msk_c10 (lp_c10 fu) 0 lc_c10_0) fuel s k = some r :=
  handle_ok (ps := ps_c10_0) (os := os_c10_0) (conv := conv_c10_0) (B := Bk_c10_0 fu) (fu := fu) back_c10_0 (fun raw => by kernel_rfl) 0 (fun c w => by kernel_rfl) (round_c10_0 fu)
theorem lpok_c10 (fu : Nat) : LpOk E (pc_c10 fu) msk_c10 (lp_c10 fu) (loops 0 body_c10) := loop_all 1 (by kernel_rfl) fun i hi => match i, hi with
  | 0, _ => by
    have h : (loops 0 body_c10).getD 0 (0, .skip) = (0, lc_c10_0) := by kernel_rfl
    rw [h]; exact lpok_c10_0 fu
  | i + 1, hi => absurd hi (by omega)
def S_c10 (fu : Nat) (xs : List (D RT den)) : Option (Out RT den) := match xs with | [.rs za0_0 .impl_Won na0_0 fa0_0, .rs za1_0 .impl_Won na1_0 fa1_0] => some ⟨Bool, F_laws_eqWonS fu (⟨za0_0, na0_0, fa0_0⟩ : (Sl S_impl_Won)) (⟨za1_0, na1_0, fa1_0⟩ : (Sl S_impl_Won)), enc_bo, fun _ => true⟩ | _ => none
theorem hpc_c10 (fu : Nat) : ∀ f xs o, pcf_c10 fu f xs = some o → ∀ y, o.x = some y → Good E Try.prog f xs (o.g y) := by
  intro f xs o h
  unfold pcf_c10 at h
  split at h
  · exact good_c9 fu xs o h
  · cases h
theorem goodv_c10 (fu : Nat) (a_0 : (Sl S_impl_Won)) (b_1 : (Sl S_impl_Won)) (y : Bool) (hy : F_laws_eqWonS fu a_0 b_1 = some y) : Good E Try.prog 53 [(.rs a_0.z .impl_Won a_0.n a_0.f), (.rs b_1.z .impl_Won b_1.n b_1.f)] (enc_bo y) :=
  fun_good E_ok (pc_good (pc := pc_c10 fu) (hpc_c10 fu) hpx0) (fn := Try.f53) (c := body_c10) (out := out_bo) (y := y) (by kernel_rfl) (by kernel_rfl) (by kernel_rfl) (lpok_c10 fu) (fun d hd => out_bo_enc d _ hd) ((ev_c10 fu a_0 b_1).trans hy)
theorem good_c10 (fu : Nat) : ∀ xs o, S_c10 fu xs = some o → ∀ y, o.x = some y → Good E Try.prog 53 xs (o.g y) := by
  intro xs o h y hy
  unfold S_c10 at h
  split at h
  · rename_i za0_0 na0_0 fa0_0 za1_0 na1_0 fa1_0
    cases h
    exact goodv_c10 fu (⟨za0_0, na0_0, fa0_0⟩ : (Sl S_impl_Won)) (⟨za1_0, na1_0, fa1_0⟩ : (Sl S_impl_Won)) y hy
  · cases h

/-! laws.eqSeal -/
def F_laws_eqSeal (fu : Nat) (a_0 : S_impl_Seal) (b_1 : S_impl_Seal) : Option (Bool) :=
  (bif (a_0.Term != b_1.Term) then (some false) else ((F_laws_eqEntry fu a_0.Entry b_1.Entry).bind fun y439 => (bif (!y439) then (some false) else (some true))))
def pcf_c11 (fu : Nat) (f : Nat) (xs : List (D RT den)) : Option (Out RT den) := match f with | 117 => S_c1 fu xs | _ => none
def pc_c11 (fu : Nat) : Pc RT den := ⟨pcf_c11 fu, fun _ => false, fun _ => false, pcd0, pcx0⟩
def msk_c11 (b : Nat) : List Nat := []
def lp_c11 (fu : Nat) : Lp RT den (Bool) := fun b s k => none
theorem ev_c11 (fu : Nat) (a_0 : S_impl_Seal) (b_1 : S_impl_Seal) : evFun E (pc_c11 fu) msk_c11 (lp_c11 fu) out_bo 121 [(.agg [(.int .i64 a_0.Term), (.int .i64 a_0.Entry.Term), (.int .i64 a_0.Entry.Client), (.int .i64 a_0.Entry.Seq), (.int .i64 a_0.Entry.Cmd.Kind), (.int .i64 a_0.Entry.Cmd.Expect), (.int .i64 a_0.Entry.Cmd.Name), (.int .i64 a_0.Entry.Cmd.Addr), (.int .i64 a_0.Entry.Cmd.Number), (.int .i64 a_0.Entry.Cmd.Proto)]), (.agg [(.int .i64 b_1.Term), (.int .i64 b_1.Entry.Term), (.int .i64 b_1.Entry.Client), (.int .i64 b_1.Entry.Seq), (.int .i64 b_1.Entry.Cmd.Kind), (.int .i64 b_1.Entry.Cmd.Expect), (.int .i64 b_1.Entry.Cmd.Name), (.int .i64 b_1.Entry.Cmd.Addr), (.int .i64 b_1.Entry.Cmd.Number), (.int .i64 b_1.Entry.Cmd.Proto)])] = F_laws_eqSeal fu a_0 b_1 := by kernel_rfl
noncomputable def body_c11 : Code := Try.f121.body.getD .skip
theorem lpok_c11 (fu : Nat) : LpOk E (pc_c11 fu) msk_c11 (lp_c11 fu) (loops 0 body_c11) := by
  have h : loops 0 body_c11 = [] := by kernel_rfl
  rw [h]; intro p hp; cases hp
def S_c11 (fu : Nat) (xs : List (D RT den)) : Option (Out RT den) := match xs with | [.agg [.int .i64 a0_1, .int .i64 a0_3, .int .i64 a0_4, .int .i64 a0_5, .int .i64 a0_7, .int .i64 a0_8, .int .i64 a0_9, .int .i64 a0_10, .int .i64 a0_11, .int .i64 a0_12], .agg [.int .i64 a1_1, .int .i64 a1_3, .int .i64 a1_4, .int .i64 a1_5, .int .i64 a1_7, .int .i64 a1_8, .int .i64 a1_9, .int .i64 a1_10, .int .i64 a1_11, .int .i64 a1_12]] => some ⟨Bool, F_laws_eqSeal fu (⟨a0_1, (⟨a0_3, a0_4, a0_5, (⟨a0_7, a0_8, a0_9, a0_10, a0_11, a0_12⟩ : S_impl_Cmd)⟩ : S_impl_Entry)⟩ : S_impl_Seal) (⟨a1_1, (⟨a1_3, a1_4, a1_5, (⟨a1_7, a1_8, a1_9, a1_10, a1_11, a1_12⟩ : S_impl_Cmd)⟩ : S_impl_Entry)⟩ : S_impl_Seal), enc_bo, fun _ => true⟩ | _ => none
theorem hpc_c11 (fu : Nat) : ∀ f xs o, pcf_c11 fu f xs = some o → ∀ y, o.x = some y → Good E Try.prog f xs (o.g y) := by
  intro f xs o h
  unfold pcf_c11 at h
  split at h
  · exact good_c1 fu xs o h
  · cases h
theorem goodv_c11 (fu : Nat) (a_0 : S_impl_Seal) (b_1 : S_impl_Seal) (y : Bool) (hy : F_laws_eqSeal fu a_0 b_1 = some y) : Good E Try.prog 121 [(.agg [(.int .i64 a_0.Term), (.int .i64 a_0.Entry.Term), (.int .i64 a_0.Entry.Client), (.int .i64 a_0.Entry.Seq), (.int .i64 a_0.Entry.Cmd.Kind), (.int .i64 a_0.Entry.Cmd.Expect), (.int .i64 a_0.Entry.Cmd.Name), (.int .i64 a_0.Entry.Cmd.Addr), (.int .i64 a_0.Entry.Cmd.Number), (.int .i64 a_0.Entry.Cmd.Proto)]), (.agg [(.int .i64 b_1.Term), (.int .i64 b_1.Entry.Term), (.int .i64 b_1.Entry.Client), (.int .i64 b_1.Entry.Seq), (.int .i64 b_1.Entry.Cmd.Kind), (.int .i64 b_1.Entry.Cmd.Expect), (.int .i64 b_1.Entry.Cmd.Name), (.int .i64 b_1.Entry.Cmd.Addr), (.int .i64 b_1.Entry.Cmd.Number), (.int .i64 b_1.Entry.Cmd.Proto)])] (enc_bo y) :=
  fun_good E_ok (pc_good (pc := pc_c11 fu) (hpc_c11 fu) hpx0) (fn := Try.f121) (c := body_c11) (out := out_bo) (y := y) (by kernel_rfl) (by kernel_rfl) (by kernel_rfl) (lpok_c11 fu) (fun d hd => out_bo_enc d _ hd) ((ev_c11 fu a_0 b_1).trans hy)
theorem good_c11 (fu : Nat) : ∀ xs o, S_c11 fu xs = some o → ∀ y, o.x = some y → Good E Try.prog 121 xs (o.g y) := by
  intro xs o h y hy
  unfold S_c11 at h
  split at h
  · rename_i a0_1 a0_3 a0_4 a0_5 a0_7 a0_8 a0_9 a0_10 a0_11 a0_12 a1_1 a1_3 a1_4 a1_5 a1_7 a1_8 a1_9 a1_10 a1_11 a1_12
    cases h
    exact goodv_c11 fu (⟨a0_1, (⟨a0_3, a0_4, a0_5, (⟨a0_7, a0_8, a0_9, a0_10, a0_11, a0_12⟩ : S_impl_Cmd)⟩ : S_impl_Entry)⟩ : S_impl_Seal) (⟨a1_1, (⟨a1_3, a1_4, a1_5, (⟨a1_7, a1_8, a1_9, a1_10, a1_11, a1_12⟩ : S_impl_Cmd)⟩ : S_impl_Entry)⟩ : S_impl_Seal) y hy
  · cases h
end Go.Proofs.Ytmnbmponjhglcaa.Pc
