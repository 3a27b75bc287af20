/- The functions' evaluated forms, each a proved summary. Conditions: none. -/
import Derived.Test.YtnfippmeficfjaaPcT
namespace Go.Proofs.Ytnfippmeficfjaa.Pc
open Go Go.RowKit Go.Proofs Vm
set_option linter.unusedVariables false
set_option linter.unusedSimpArgs false
set_option maxRecDepth 100000
/-! laws.szEntryS -/
def F_laws_szEntryS (fu : Nat) (a_0 : (Sl S_laws_Entry)) (left_1 : Int) : Option (Int) :=
  (bif (decide ((IntKind.wrap .i64 (left_1 - ((a_0.n : Nat) : Int))) < 0)) then (some (-1)) else (some (IntKind.wrap .i64 (left_1 - ((a_0.n : Nat) : Int)))))
def pc_laws_szEntryS (fu : Nat) : Pc RT den := fun f xs => none
def msk_laws_szEntryS (b : Nat) : List Nat := []
def lp_laws_szEntryS (fu : Nat) : Lp RT den (Int) := fun b s k => none
theorem ev_laws_szEntryS (fu : Nat) (a_0 : (Sl S_laws_Entry)) (left_1 : Int) : evFun E (pc_laws_szEntryS fu) msk_laws_szEntryS (lp_laws_szEntryS fu) out_i64 81 [(.rs a_0.z .laws_Entry a_0.n a_0.f), (.int .i64 left_1)] = F_laws_szEntryS fu a_0 left_1 := by kernel_rfl
noncomputable def body_laws_szEntryS : Code := Try.f81.body.getD .skip
theorem lpok_laws_szEntryS (fu : Nat) : LpOk E (pc_laws_szEntryS fu) msk_laws_szEntryS (lp_laws_szEntryS fu) (loops 0 body_laws_szEntryS) := by
  have h : loops 0 body_laws_szEntryS = [] := by kernel_rfl
  rw [h]; intro p hp; cases hp
def S_laws_szEntryS (fu : Nat) (xs : List (D RT den)) : Option (Out RT den) := match xs with | [.rs za0_0 .laws_Entry na0_0 fa0_0, .int .i64 a1_0] => some ⟨Int, F_laws_szEntryS fu (⟨za0_0, na0_0, fa0_0⟩ : (Sl S_laws_Entry)) a1_0, enc_i64, fun _ => true⟩ | _ => none
theorem hpc_laws_szEntryS (fu : Nat) : ∀ f xs o, pc_laws_szEntryS fu f xs = some o → ∀ y, o.x = some y → Good E Try.prog f xs (o.g y) := by
  intro f xs o h
  cases h
theorem goodv_laws_szEntryS (fu : Nat) (a_0 : (Sl S_laws_Entry)) (left_1 : Int) (y : Int) (hy : F_laws_szEntryS fu a_0 left_1 = some y) : Good E Try.prog 81 [(.rs a_0.z .laws_Entry a_0.n a_0.f), (.int .i64 left_1)] (enc_i64 y) :=
  fun_good E_ok (pc_good (hpc_laws_szEntryS fu)) (fn := Try.f81) (c := body_laws_szEntryS) (out := out_i64) (y := y) (by kernel_rfl) (by kernel_rfl) (by kernel_rfl) (lpok_laws_szEntryS fu) (fun d hd => out_i64_enc d _ hd) ((ev_laws_szEntryS fu a_0 left_1).trans hy)
theorem good_laws_szEntryS (fu : Nat) : ∀ xs o, S_laws_szEntryS fu xs = some o → ∀ y, o.x = some y → Good E Try.prog 81 xs (o.g y) := by
  intro xs o h y hy
  unfold S_laws_szEntryS at h
  split at h
  · rename_i za0_0 na0_0 fa0_0 a1_0
    cases h
    exact goodv_laws_szEntryS fu (⟨za0_0, na0_0, fa0_0⟩ : (Sl S_laws_Entry)) a1_0 y hy
  · cases h

/-! laws.szInt64S -/
def F_laws_szInt64S (fu : Nat) (a_0 : (Sl Int)) (left_1 : Int) : Option (Int) :=
  (bif (decide ((IntKind.wrap .i64 (left_1 - ((a_0.n : Nat) : Int))) < 0)) then (some (-1)) else (some (IntKind.wrap .i64 (left_1 - ((a_0.n : Nat) : Int)))))
def pc_laws_szInt64S (fu : Nat) : Pc RT den := fun f xs => none
def msk_laws_szInt64S (b : Nat) : List Nat := []
def lp_laws_szInt64S (fu : Nat) : Lp RT den (Int) := fun b s k => none
theorem ev_laws_szInt64S (fu : Nat) (a_0 : (Sl Int)) (left_1 : Int) : evFun E (pc_laws_szInt64S fu) msk_laws_szInt64S (lp_laws_szInt64S fu) out_i64 82 [(.rs a_0.z .i64 a_0.n a_0.f), (.int .i64 left_1)] = F_laws_szInt64S fu a_0 left_1 := by kernel_rfl
noncomputable def body_laws_szInt64S : Code := Try.f82.body.getD .skip
theorem lpok_laws_szInt64S (fu : Nat) : LpOk E (pc_laws_szInt64S fu) msk_laws_szInt64S (lp_laws_szInt64S fu) (loops 0 body_laws_szInt64S) := by
  have h : loops 0 body_laws_szInt64S = [] := by kernel_rfl
  rw [h]; intro p hp; cases hp
def S_laws_szInt64S (fu : Nat) (xs : List (D RT den)) : Option (Out RT den) := match xs with | [.rs za0_0 .i64 na0_0 fa0_0, .int .i64 a1_0] => some ⟨Int, F_laws_szInt64S fu (⟨za0_0, na0_0, fa0_0⟩ : (Sl Int)) a1_0, enc_i64, fun _ => true⟩ | _ => none
theorem hpc_laws_szInt64S (fu : Nat) : ∀ f xs o, pc_laws_szInt64S fu f xs = some o → ∀ y, o.x = some y → Good E Try.prog f xs (o.g y) := by
  intro f xs o h
  cases h
theorem goodv_laws_szInt64S (fu : Nat) (a_0 : (Sl Int)) (left_1 : Int) (y : Int) (hy : F_laws_szInt64S fu a_0 left_1 = some y) : Good E Try.prog 82 [(.rs a_0.z .i64 a_0.n a_0.f), (.int .i64 left_1)] (enc_i64 y) :=
  fun_good E_ok (pc_good (hpc_laws_szInt64S fu)) (fn := Try.f82) (c := body_laws_szInt64S) (out := out_i64) (y := y) (by kernel_rfl) (by kernel_rfl) (by kernel_rfl) (lpok_laws_szInt64S fu) (fun d hd => out_i64_enc d _ hd) ((ev_laws_szInt64S fu a_0 left_1).trans hy)
theorem good_laws_szInt64S (fu : Nat) : ∀ xs o, S_laws_szInt64S fu xs = some o → ∀ y, o.x = some y → Good E Try.prog 82 xs (o.g y) := by
  intro xs o h y hy
  unfold S_laws_szInt64S at h
  split at h
  · rename_i za0_0 na0_0 fa0_0 a1_0
    cases h
    exact goodv_laws_szInt64S fu (⟨za0_0, na0_0, fa0_0⟩ : (Sl Int)) a1_0 y hy
  · cases h

/-! laws.szNode -/
def F_laws_szNode (fu : Nat) (a_0 : S_laws_Node) (left_1 : Int) : Option (Int) :=
  ((F_laws_szEntryS fu a_0.Log left_1).bind fun y15 => (bif (decide (y15 < 0)) then (some (-1)) else ((F_laws_szInt64S fu a_0.Votes y15).bind fun y16 => (bif (decide (y16 < 0)) then
    (some (-1)) else ((F_laws_szInt64S fu a_0.Next y16).bind fun y17 => (bif (decide (y17 < 0)) then (some (-1)) else ((F_laws_szInt64S fu a_0.Match y17).bind fun y18 => (bif (decide (y18 < 0)) then
    (some (-1)) else (some y18)))))))))
def pc_laws_szNode (fu : Nat) : Pc RT den := fun f xs => match f with | 81 => S_laws_szEntryS fu xs | 82 => S_laws_szInt64S fu xs | _ => none
def msk_laws_szNode (b : Nat) : List Nat := []
def lp_laws_szNode (fu : Nat) : Lp RT den (Int) := fun b s k => none
theorem ev_laws_szNode (fu : Nat) (a_0 : S_laws_Node) (left_1 : Int) : evFun E (pc_laws_szNode fu) msk_laws_szNode (lp_laws_szNode fu) out_i64 53 [(.agg [(.int .i64 a_0.Id), (.int .i64 a_0.Peers), (.int .i64 a_0.Term), (.int .i64 a_0.Voted), (.rs a_0.Log.z .laws_Entry a_0.Log.n a_0.Log.f), (.int .i64 a_0.Role), (.int .i64 a_0.Commit), (.rs a_0.Votes.z .i64 a_0.Votes.n a_0.Votes.f), (.rs a_0.Next.z .i64 a_0.Next.n a_0.Next.f), (.rs a_0.Match.z .i64 a_0.Match.n a_0.Match.f)]), (.int .i64 left_1)] = F_laws_szNode fu a_0 left_1 := by kernel_rfl
noncomputable def body_laws_szNode : Code := Try.f53.body.getD .skip
theorem lpok_laws_szNode (fu : Nat) : LpOk E (pc_laws_szNode fu) msk_laws_szNode (lp_laws_szNode fu) (loops 0 body_laws_szNode) := by
  have h : loops 0 body_laws_szNode = [] := by kernel_rfl
  rw [h]; intro p hp; cases hp
def S_laws_szNode (fu : Nat) (xs : List (D RT den)) : Option (Out RT den) := match xs with | [.agg [.int .i64 a0_1, .int .i64 a0_2, .int .i64 a0_3, .int .i64 a0_4, .rs za0_5 .laws_Entry na0_5 fa0_5, .int .i64 a0_6, .int .i64 a0_7, .rs za0_8 .i64 na0_8 fa0_8, .rs za0_9 .i64 na0_9 fa0_9, .rs za0_10 .i64 na0_10 fa0_10], .int .i64 a1_0] => some ⟨Int, F_laws_szNode fu (⟨a0_1, a0_2, a0_3, a0_4, (⟨za0_5, na0_5, fa0_5⟩ : (Sl S_laws_Entry)), a0_6, a0_7, (⟨za0_8, na0_8, fa0_8⟩ : (Sl Int)), (⟨za0_9, na0_9, fa0_9⟩ : (Sl Int)), (⟨za0_10, na0_10, fa0_10⟩ : (Sl Int))⟩ : S_laws_Node) a1_0, enc_i64, fun _ => true⟩ | _ => none
theorem hpc_laws_szNode (fu : Nat) : ∀ f xs o, pc_laws_szNode fu f xs = some o → ∀ y, o.x = some y → Good E Try.prog f xs (o.g y) := by
  intro f xs o h
  unfold pc_laws_szNode at h
  split at h
  · exact good_laws_szEntryS fu xs o h
  · exact good_laws_szInt64S fu xs o h
  · cases h
theorem goodv_laws_szNode (fu : Nat) (a_0 : S_laws_Node) (left_1 : Int) (y : Int) (hy : F_laws_szNode fu a_0 left_1 = some y) : Good E Try.prog 53 [(.agg [(.int .i64 a_0.Id), (.int .i64 a_0.Peers), (.int .i64 a_0.Term), (.int .i64 a_0.Voted), (.rs a_0.Log.z .laws_Entry a_0.Log.n a_0.Log.f), (.int .i64 a_0.Role), (.int .i64 a_0.Commit), (.rs a_0.Votes.z .i64 a_0.Votes.n a_0.Votes.f), (.rs a_0.Next.z .i64 a_0.Next.n a_0.Next.f), (.rs a_0.Match.z .i64 a_0.Match.n a_0.Match.f)]), (.int .i64 left_1)] (enc_i64 y) :=
  fun_good E_ok (pc_good (hpc_laws_szNode fu)) (fn := Try.f53) (c := body_laws_szNode) (out := out_i64) (y := y) (by kernel_rfl) (by kernel_rfl) (by kernel_rfl) (lpok_laws_szNode fu) (fun d hd => out_i64_enc d _ hd) ((ev_laws_szNode fu a_0 left_1).trans hy)
theorem good_laws_szNode (fu : Nat) : ∀ xs o, S_laws_szNode fu xs = some o → ∀ y, o.x = some y → Good E Try.prog 53 xs (o.g y) := by
  intro xs o h y hy
  unfold S_laws_szNode at h
  split at h
  · rename_i a0_1 a0_2 a0_3 a0_4 za0_5 na0_5 fa0_5 a0_6 a0_7 za0_8 na0_8 fa0_8 za0_9 na0_9 fa0_9 za0_10 na0_10 fa0_10 a1_0
    cases h
    exact goodv_laws_szNode fu (⟨a0_1, a0_2, a0_3, a0_4, (⟨za0_5, na0_5, fa0_5⟩ : (Sl S_laws_Entry)), a0_6, a0_7, (⟨za0_8, na0_8, fa0_8⟩ : (Sl Int)), (⟨za0_9, na0_9, fa0_9⟩ : (Sl Int)), (⟨za0_10, na0_10, fa0_10⟩ : (Sl Int))⟩ : S_laws_Node) a1_0 y hy
  · cases h

/-! laws.szNodeS -/
def F_laws_szNodeS_B0 {ρ : Type} (fu : Nat) (a0_0 : (Sl S_laws_Node)) (k0 : Int → Option ρ) (k1 : Int → Option ρ) (left1_1 : Int) (i5_2 : Int) (go : Int → Int → Option ρ) : Option ρ :=
  (bif (decide (i5_2 < ((a0_0.n : Nat) : Int))) then ((bif (decide (0 ≤ i5_2) && decide ((Int.toNat i5_2) < a0_0.n)) then some () else none : Option Unit).bind fun _ =>
    ((F_laws_szNode fu (a0_0.f (Int.toNat i5_2)) left1_1).bind fun y12 => (bif (decide (y12 < 0)) then (k0 y12) else (go y12 (IntKind.wrap .i64 (i5_2 + 1)))))) else (k1 left1_1))
def F_laws_szNodeS (fu : Nat) (a_0 : (Sl S_laws_Node)) (left_1 : Int) : Option (Int) :=
  (bif (decide ((IntKind.wrap .i64 (left_1 - ((a_0.n : Nat) : Int))) < 0)) then (some (-1)) else (L (fun w0 go0 => F_laws_szNodeS_B0 fu a_0 (fun z13 => (some (-1))) (fun z14 =>
    (some z14)) w0.1 w0.2 (fun q0 q1 => go0 (q0, q1))) fu (((IntKind.wrap .i64 (left_1 - ((a_0.n : Nat) : Int))), 0) : Int × Int)))
def pc_laws_szNodeS (fu : Nat) : Pc RT den := fun f xs => match f with | 53 => S_laws_szNode fu xs | _ => none
def msk_laws_szNodeS (b : Nat) : List Nat := match b with | 0 => [2, 3, 4, 6, 7, 8, 9, 10, 11, 12, 13, 14, 15, 16, 17, 18, 19, 20, 21, 22, 23, 24, 25, 26] | 100000 => [0, 2, 3, 5, 6, 7, 8, 9, 10, 11, 12, 13, 14, 15, 16, 17, 18, 19, 20, 21, 22, 23, 24, 25, 26] | _ => []
def ps_laws_szNodeS_0 : List (Pat RT) := [.flat (.rs .laws_Node), .flat (.int .i64), .flat .dead, .flat .dead, .flat .dead, .flat (.int .i64), .flat .dead, .flat .dead, .flat .dead, .flat .dead, .flat .dead, .flat .dead, .flat .dead, .flat .dead, .flat .dead, .flat .dead, .flat .dead, .flat .dead, .flat .dead, .flat .dead, .flat .dead, .flat .dead, .flat .dead, .flat .dead, .flat .dead, .flat .dead, .flat .dead]
def os_laws_szNodeS_0 : List (OP RT) := []
def conv_laws_szNodeS_0 (r : Raw den ps_laws_szNodeS_0 os_laws_szNodeS_0) : ((Sl S_laws_Node)) × (Int × Int) := (r.1.1, (r.1.2.1, r.1.2.2.2.2.2.1))
def back_laws_szNodeS_0 (c : (Sl S_laws_Node)) (w : Int × Int) : St RT den := ⟨[(.rs c.z .laws_Node c.n c.f), (.int .i64 w.1), .dead, .dead, .dead, (.int .i64 w.2), .dead, .dead, .dead, .dead, .dead, .dead, .dead, .dead, .dead, .dead, .dead, .dead, .dead, .dead, .dead, .dead, .dead, .dead, .dead, .dead, .dead], []⟩
def Bk_laws_szNodeS_0 {ρ : Type} (fu : Nat) (c : (Sl S_laws_Node)) (k : Ex → St RT den → Option ρ) (w : Int × Int) (go : (Int × Int) → Option ρ) : Option ρ := F_laws_szNodeS_B0 fu c (fun a0 => k .ret ⟨[.dead, (.int .i64 a0), .dead, .dead, (.int .i64 (-1)), .dead, .dead, .dead, .dead, .dead, .dead, .dead, .dead, .dead, .dead, .dead, .dead, .dead, .dead, .dead, .dead, .dead, .dead, .dead, .dead, .dead, .dead], []⟩) (fun a0 => k (.exit 0) ⟨[.dead, (.int .i64 a0), .dead, .dead, .dead, .dead, .dead, .dead, .dead, .dead, .dead, .dead, .dead, .dead, .dead, .dead, .dead, .dead, .dead, .dead, .dead, .dead, .dead, .dead, .dead, .dead, .dead], []⟩) w.1 w.2 (fun q0 q1 => go (q0, q1))
def lp_laws_szNodeS (fu : Nat) : Lp RT den (Int) := fun b s k => match b with | 0 => handle ps_laws_szNodeS_0 os_laws_szNodeS_0 conv_laws_szNodeS_0 (Bk_laws_szNodeS_0 fu) fu s k | _ => none
theorem ev_laws_szNodeS (fu : Nat) (a_0 : (Sl S_laws_Node)) (left_1 : Int) : evFun E (pc_laws_szNodeS fu) msk_laws_szNodeS (lp_laws_szNodeS fu) out_i64 22 [(.rs a_0.z .laws_Node a_0.n a_0.f), (.int .i64 left_1)] = F_laws_szNodeS fu a_0 left_1 := by kernel_rfl
noncomputable def body_laws_szNodeS : Code := Try.f22.body.getD .skip
noncomputable def lc_laws_szNodeS_0 : Code := ((loops 0 body_laws_szNodeS).getD 0 (0, .skip)).2
theorem round_laws_szNodeS_0 (fu : Nat) (it : St RT den → Option (Int)) (k : Ex → St RT den → Option (Int)) c w : evCode E (pc_laws_szNodeS fu) msk_laws_szNodeS (lp_laws_szNodeS fu) 0 lc_laws_szNodeS_0 (back_laws_szNodeS_0 c w) (after (msk_laws_szNodeS 0) (msk_laws_szNodeS 100000) 0 it k) = Bk_laws_szNodeS_0 fu c k w (fun w => it (back_laws_szNodeS_0 c w)) := by kernel_rfl
theorem lpok_laws_szNodeS_0 (fu : Nat) : ∀ s k r, lp_laws_szNodeS fu 0 s k = some r → ∃ fuel, iter (msk_laws_szNodeS 0) (msk_laws_szNodeS 100000) s.objs.length (evCode E (pc_laws_szNodeS fu) msk_laws_szNodeS (lp_laws_szNodeS fu) 0 lc_laws_szNodeS_0) fuel s k = some r :=
  handle_ok (ps := ps_laws_szNodeS_0) (os := os_laws_szNodeS_0) (conv := conv_laws_szNodeS_0) (B := Bk_laws_szNodeS_0 fu) (fu := fu) back_laws_szNodeS_0 (fun raw => by kernel_rfl) 0 (fun c w => by kernel_rfl) (round_laws_szNodeS_0 fu)
theorem lpok_laws_szNodeS (fu : Nat) : LpOk E (pc_laws_szNodeS fu) msk_laws_szNodeS (lp_laws_szNodeS fu) (loops 0 body_laws_szNodeS) := loop_all 1 (by kernel_rfl) fun i hi => match i, hi with
  | 0, _ => by
    have h : (loops 0 body_laws_szNodeS).getD 0 (0, .skip) = (0, lc_laws_szNodeS_0) := by kernel_rfl
    rw [h]; exact lpok_laws_szNodeS_0 fu
  | i + 1, hi => absurd hi (by omega)
def S_laws_szNodeS (fu : Nat) (xs : List (D RT den)) : Option (Out RT den) := match xs with | [.rs za0_0 .laws_Node na0_0 fa0_0, .int .i64 a1_0] => some ⟨Int, F_laws_szNodeS fu (⟨za0_0, na0_0, fa0_0⟩ : (Sl S_laws_Node)) a1_0, enc_i64, fun _ => true⟩ | _ => none
theorem hpc_laws_szNodeS (fu : Nat) : ∀ f xs o, pc_laws_szNodeS fu f xs = some o → ∀ y, o.x = some y → Good E Try.prog f xs (o.g y) := by
  intro f xs o h
  unfold pc_laws_szNodeS at h
  split at h
  · exact good_laws_szNode fu xs o h
  · cases h
theorem goodv_laws_szNodeS (fu : Nat) (a_0 : (Sl S_laws_Node)) (left_1 : Int) (y : Int) (hy : F_laws_szNodeS fu a_0 left_1 = some y) : Good E Try.prog 22 [(.rs a_0.z .laws_Node a_0.n a_0.f), (.int .i64 left_1)] (enc_i64 y) :=
  fun_good E_ok (pc_good (hpc_laws_szNodeS fu)) (fn := Try.f22) (c := body_laws_szNodeS) (out := out_i64) (y := y) (by kernel_rfl) (by kernel_rfl) (by kernel_rfl) (lpok_laws_szNodeS fu) (fun d hd => out_i64_enc d _ hd) ((ev_laws_szNodeS fu a_0 left_1).trans hy)
theorem good_laws_szNodeS (fu : Nat) : ∀ xs o, S_laws_szNodeS fu xs = some o → ∀ y, o.x = some y → Good E Try.prog 22 xs (o.g y) := by
  intro xs o h y hy
  unfold S_laws_szNodeS at h
  split at h
  · rename_i za0_0 na0_0 fa0_0 a1_0
    cases h
    exact goodv_laws_szNodeS fu (⟨za0_0, na0_0, fa0_0⟩ : (Sl S_laws_Node)) a1_0 y hy
  · cases h

/-! laws.szMail -/
def F_laws_szMail (fu : Nat) (a_0 : S_laws_Mail) (left_1 : Int) : Option (Int) :=
  ((F_laws_szEntryS fu a_0.Entries left_1).bind fun y22 => (bif (decide (y22 < 0)) then (some (-1)) else (some y22)))
def pc_laws_szMail (fu : Nat) : Pc RT den := fun f xs => match f with | 81 => S_laws_szEntryS fu xs | _ => none
def msk_laws_szMail (b : Nat) : List Nat := []
def lp_laws_szMail (fu : Nat) : Lp RT den (Int) := fun b s k => none
theorem ev_laws_szMail (fu : Nat) (a_0 : S_laws_Mail) (left_1 : Int) : evFun E (pc_laws_szMail fu) msk_laws_szMail (lp_laws_szMail fu) out_i64 54 [(.agg [(.int .i64 a_0.Kind), (.int .i64 a_0.From), (.int .i64 a_0.To), (.int .i64 a_0.Term), (.int .i64 a_0.Index), (.int .i64 a_0.Last), (.int .i64 a_0.Commit), (.bool a_0.Ok), (.rs a_0.Entries.z .laws_Entry a_0.Entries.n a_0.Entries.f)]), (.int .i64 left_1)] = F_laws_szMail fu a_0 left_1 := by kernel_rfl
noncomputable def body_laws_szMail : Code := Try.f54.body.getD .skip
theorem lpok_laws_szMail (fu : Nat) : LpOk E (pc_laws_szMail fu) msk_laws_szMail (lp_laws_szMail fu) (loops 0 body_laws_szMail) := by
  have h : loops 0 body_laws_szMail = [] := by kernel_rfl
  rw [h]; intro p hp; cases hp
def S_laws_szMail (fu : Nat) (xs : List (D RT den)) : Option (Out RT den) := match xs with | [.agg [.int .i64 a0_1, .int .i64 a0_2, .int .i64 a0_3, .int .i64 a0_4, .int .i64 a0_5, .int .i64 a0_6, .int .i64 a0_7, .bool a0_8, .rs za0_9 .laws_Entry na0_9 fa0_9], .int .i64 a1_0] => some ⟨Int, F_laws_szMail fu (⟨a0_1, a0_2, a0_3, a0_4, a0_5, a0_6, a0_7, a0_8, (⟨za0_9, na0_9, fa0_9⟩ : (Sl S_laws_Entry))⟩ : S_laws_Mail) a1_0, enc_i64, fun _ => true⟩ | _ => none
theorem hpc_laws_szMail (fu : Nat) : ∀ f xs o, pc_laws_szMail fu f xs = some o → ∀ y, o.x = some y → Good E Try.prog f xs (o.g y) := by
  intro f xs o h
  unfold pc_laws_szMail at h
  split at h
  · exact good_laws_szEntryS fu xs o h
  · cases h
theorem goodv_laws_szMail (fu : Nat) (a_0 : S_laws_Mail) (left_1 : Int) (y : Int) (hy : F_laws_szMail fu a_0 left_1 = some y) : Good E Try.prog 54 [(.agg [(.int .i64 a_0.Kind), (.int .i64 a_0.From), (.int .i64 a_0.To), (.int .i64 a_0.Term), (.int .i64 a_0.Index), (.int .i64 a_0.Last), (.int .i64 a_0.Commit), (.bool a_0.Ok), (.rs a_0.Entries.z .laws_Entry a_0.Entries.n a_0.Entries.f)]), (.int .i64 left_1)] (enc_i64 y) :=
  fun_good E_ok (pc_good (hpc_laws_szMail fu)) (fn := Try.f54) (c := body_laws_szMail) (out := out_i64) (y := y) (by kernel_rfl) (by kernel_rfl) (by kernel_rfl) (lpok_laws_szMail fu) (fun d hd => out_i64_enc d _ hd) ((ev_laws_szMail fu a_0 left_1).trans hy)
theorem good_laws_szMail (fu : Nat) : ∀ xs o, S_laws_szMail fu xs = some o → ∀ y, o.x = some y → Good E Try.prog 54 xs (o.g y) := by
  intro xs o h y hy
  unfold S_laws_szMail at h
  split at h
  · rename_i a0_1 a0_2 a0_3 a0_4 a0_5 a0_6 a0_7 a0_8 za0_9 na0_9 fa0_9 a1_0
    cases h
    exact goodv_laws_szMail fu (⟨a0_1, a0_2, a0_3, a0_4, a0_5, a0_6, a0_7, a0_8, (⟨za0_9, na0_9, fa0_9⟩ : (Sl S_laws_Entry))⟩ : S_laws_Mail) a1_0 y hy
  · cases h

/-! laws.szMailS -/
def F_laws_szMailS_B0 {ρ : Type} (fu : Nat) (a0_0 : (Sl S_laws_Mail)) (k0 : Int → Option ρ) (k1 : Int → Option ρ) (left1_1 : Int) (i5_2 : Int) (go : Int → Int → Option ρ) : Option ρ :=
  (bif (decide (i5_2 < ((a0_0.n : Nat) : Int))) then ((bif (decide (0 ≤ i5_2) && decide ((Int.toNat i5_2) < a0_0.n)) then some () else none : Option Unit).bind fun _ =>
    ((F_laws_szMail fu (a0_0.f (Int.toNat i5_2)) left1_1).bind fun y19 => (bif (decide (y19 < 0)) then (k0 y19) else (go y19 (IntKind.wrap .i64 (i5_2 + 1)))))) else (k1 left1_1))
def F_laws_szMailS (fu : Nat) (a_0 : (Sl S_laws_Mail)) (left_1 : Int) : Option (Int) :=
  (bif (decide ((IntKind.wrap .i64 (left_1 - ((a_0.n : Nat) : Int))) < 0)) then (some (-1)) else (L (fun w0 go0 => F_laws_szMailS_B0 fu a_0 (fun z20 => (some (-1))) (fun z21 =>
    (some z21)) w0.1 w0.2 (fun q0 q1 => go0 (q0, q1))) fu (((IntKind.wrap .i64 (left_1 - ((a_0.n : Nat) : Int))), 0) : Int × Int)))
def pc_laws_szMailS (fu : Nat) : Pc RT den := fun f xs => match f with | 54 => S_laws_szMail fu xs | _ => none
def msk_laws_szMailS (b : Nat) : List Nat := match b with | 0 => [2, 3, 4, 6, 7, 8, 9, 10, 11, 12, 13, 14, 15, 16, 17, 18, 19, 20, 21, 22, 23, 24, 25, 26] | 100000 => [0, 2, 3, 5, 6, 7, 8, 9, 10, 11, 12, 13, 14, 15, 16, 17, 18, 19, 20, 21, 22, 23, 24, 25, 26] | _ => []
def ps_laws_szMailS_0 : List (Pat RT) := [.flat (.rs .laws_Mail), .flat (.int .i64), .flat .dead, .flat .dead, .flat .dead, .flat (.int .i64), .flat .dead, .flat .dead, .flat .dead, .flat .dead, .flat .dead, .flat .dead, .flat .dead, .flat .dead, .flat .dead, .flat .dead, .flat .dead, .flat .dead, .flat .dead, .flat .dead, .flat .dead, .flat .dead, .flat .dead, .flat .dead, .flat .dead, .flat .dead, .flat .dead]
def os_laws_szMailS_0 : List (OP RT) := []
def conv_laws_szMailS_0 (r : Raw den ps_laws_szMailS_0 os_laws_szMailS_0) : ((Sl S_laws_Mail)) × (Int × Int) := (r.1.1, (r.1.2.1, r.1.2.2.2.2.2.1))
def back_laws_szMailS_0 (c : (Sl S_laws_Mail)) (w : Int × Int) : St RT den := ⟨[(.rs c.z .laws_Mail c.n c.f), (.int .i64 w.1), .dead, .dead, .dead, (.int .i64 w.2), .dead, .dead, .dead, .dead, .dead, .dead, .dead, .dead, .dead, .dead, .dead, .dead, .dead, .dead, .dead, .dead, .dead, .dead, .dead, .dead, .dead], []⟩
def Bk_laws_szMailS_0 {ρ : Type} (fu : Nat) (c : (Sl S_laws_Mail)) (k : Ex → St RT den → Option ρ) (w : Int × Int) (go : (Int × Int) → Option ρ) : Option ρ := F_laws_szMailS_B0 fu c (fun a0 => k .ret ⟨[.dead, (.int .i64 a0), .dead, .dead, (.int .i64 (-1)), .dead, .dead, .dead, .dead, .dead, .dead, .dead, .dead, .dead, .dead, .dead, .dead, .dead, .dead, .dead, .dead, .dead, .dead, .dead, .dead, .dead, .dead], []⟩) (fun a0 => k (.exit 0) ⟨[.dead, (.int .i64 a0), .dead, .dead, .dead, .dead, .dead, .dead, .dead, .dead, .dead, .dead, .dead, .dead, .dead, .dead, .dead, .dead, .dead, .dead, .dead, .dead, .dead, .dead, .dead, .dead, .dead], []⟩) w.1 w.2 (fun q0 q1 => go (q0, q1))
def lp_laws_szMailS (fu : Nat) : Lp RT den (Int) := fun b s k => match b with | 0 => handle ps_laws_szMailS_0 os_laws_szMailS_0 conv_laws_szMailS_0 (Bk_laws_szMailS_0 fu) fu s k | _ => none
theorem ev_laws_szMailS (fu : Nat) (a_0 : (Sl S_laws_Mail)) (left_1 : Int) : evFun E (pc_laws_szMailS fu) msk_laws_szMailS (lp_laws_szMailS fu) out_i64 23 [(.rs a_0.z .laws_Mail a_0.n a_0.f), (.int .i64 left_1)] = F_laws_szMailS fu a_0 left_1 := by kernel_rfl
noncomputable def body_laws_szMailS : Code := Try.f23.body.getD .skip
noncomputable def lc_laws_szMailS_0 : Code := ((loops 0 body_laws_szMailS).getD 0 (0, .skip)).2
theorem round_laws_szMailS_0 (fu : Nat) (it : St RT den → Option (Int)) (k : Ex → St RT den → Option (Int)) c w : evCode E (pc_laws_szMailS fu) msk_laws_szMailS (lp_laws_szMailS fu) 0 lc_laws_szMailS_0 (back_laws_szMailS_0 c w) (after (msk_laws_szMailS 0) (msk_laws_szMailS 100000) 0 it k) = Bk_laws_szMailS_0 fu c k w (fun w => it (back_laws_szMailS_0 c w)) := by kernel_rfl
theorem lpok_laws_szMailS_0 (fu : Nat) : ∀ s k r, lp_laws_szMailS fu 0 s k = some r → ∃ fuel, iter (msk_laws_szMailS 0) (msk_laws_szMailS 100000) s.objs.length (evCode E (pc_laws_szMailS fu) msk_laws_szMailS (lp_laws_szMailS fu) 0 lc_laws_szMailS_0) fuel s k = some r :=
  handle_ok (ps := ps_laws_szMailS_0) (os := os_laws_szMailS_0) (conv := conv_laws_szMailS_0) (B := Bk_laws_szMailS_0 fu) (fu := fu) back_laws_szMailS_0 (fun raw => by kernel_rfl) 0 (fun c w => by kernel_rfl) (round_laws_szMailS_0 fu)
theorem lpok_laws_szMailS (fu : Nat) : LpOk E (pc_laws_szMailS fu) msk_laws_szMailS (lp_laws_szMailS fu) (loops 0 body_laws_szMailS) := loop_all 1 (by kernel_rfl) fun i hi => match i, hi with
  | 0, _ => by
    have h : (loops 0 body_laws_szMailS).getD 0 (0, .skip) = (0, lc_laws_szMailS_0) := by kernel_rfl
    rw [h]; exact lpok_laws_szMailS_0 fu
  | i + 1, hi => absurd hi (by omega)
def S_laws_szMailS (fu : Nat) (xs : List (D RT den)) : Option (Out RT den) := match xs with | [.rs za0_0 .laws_Mail na0_0 fa0_0, .int .i64 a1_0] => some ⟨Int, F_laws_szMailS fu (⟨za0_0, na0_0, fa0_0⟩ : (Sl S_laws_Mail)) a1_0, enc_i64, fun _ => true⟩ | _ => none
theorem hpc_laws_szMailS (fu : Nat) : ∀ f xs o, pc_laws_szMailS fu f xs = some o → ∀ y, o.x = some y → Good E Try.prog f xs (o.g y) := by
  intro f xs o h
  unfold pc_laws_szMailS at h
  split at h
  · exact good_laws_szMail fu xs o h
  · cases h
theorem goodv_laws_szMailS (fu : Nat) (a_0 : (Sl S_laws_Mail)) (left_1 : Int) (y : Int) (hy : F_laws_szMailS fu a_0 left_1 = some y) : Good E Try.prog 23 [(.rs a_0.z .laws_Mail a_0.n a_0.f), (.int .i64 left_1)] (enc_i64 y) :=
  fun_good E_ok (pc_good (hpc_laws_szMailS fu)) (fn := Try.f23) (c := body_laws_szMailS) (out := out_i64) (y := y) (by kernel_rfl) (by kernel_rfl) (by kernel_rfl) (lpok_laws_szMailS fu) (fun d hd => out_i64_enc d _ hd) ((ev_laws_szMailS fu a_0 left_1).trans hy)
theorem good_laws_szMailS (fu : Nat) : ∀ xs o, S_laws_szMailS fu xs = some o → ∀ y, o.x = some y → Good E Try.prog 23 xs (o.g y) := by
  intro xs o h y hy
  unfold S_laws_szMailS at h
  split at h
  · rename_i za0_0 na0_0 fa0_0 a1_0
    cases h
    exact goodv_laws_szMailS fu (⟨za0_0, na0_0, fa0_0⟩ : (Sl S_laws_Mail)) a1_0 y hy
  · cases h

/-! laws.szWonS -/
def F_laws_szWonS (fu : Nat) (a_0 : (Sl S_impl_Won)) (left_1 : Int) : Option (Int) :=
  (bif (decide ((IntKind.wrap .i64 (left_1 - ((a_0.n : Nat) : Int))) < 0)) then (some (-1)) else (some (IntKind.wrap .i64 (left_1 - ((a_0.n : Nat) : Int)))))
def pc_laws_szWonS (fu : Nat) : Pc RT den := fun f xs => none
def msk_laws_szWonS (b : Nat) : List Nat := []
def lp_laws_szWonS (fu : Nat) : Lp RT den (Int) := fun b s k => none
theorem ev_laws_szWonS (fu : Nat) (a_0 : (Sl S_impl_Won)) (left_1 : Int) : evFun E (pc_laws_szWonS fu) msk_laws_szWonS (lp_laws_szWonS fu) out_i64 24 [(.rs a_0.z .impl_Won a_0.n a_0.f), (.int .i64 left_1)] = F_laws_szWonS fu a_0 left_1 := by kernel_rfl
noncomputable def body_laws_szWonS : Code := Try.f24.body.getD .skip
theorem lpok_laws_szWonS (fu : Nat) : LpOk E (pc_laws_szWonS fu) msk_laws_szWonS (lp_laws_szWonS fu) (loops 0 body_laws_szWonS) := by
  have h : loops 0 body_laws_szWonS = [] := by kernel_rfl
  rw [h]; intro p hp; cases hp
def S_laws_szWonS (fu : Nat) (xs : List (D RT den)) : Option (Out RT den) := match xs with | [.rs za0_0 .impl_Won na0_0 fa0_0, .int .i64 a1_0] => some ⟨Int, F_laws_szWonS fu (⟨za0_0, na0_0, fa0_0⟩ : (Sl S_impl_Won)) a1_0, enc_i64, fun _ => true⟩ | _ => none
theorem hpc_laws_szWonS (fu : Nat) : ∀ f xs o, pc_laws_szWonS fu f xs = some o → ∀ y, o.x = some y → Good E Try.prog f xs (o.g y) := by
  intro f xs o h
  cases h
theorem goodv_laws_szWonS (fu : Nat) (a_0 : (Sl S_impl_Won)) (left_1 : Int) (y : Int) (hy : F_laws_szWonS fu a_0 left_1 = some y) : Good E Try.prog 24 [(.rs a_0.z .impl_Won a_0.n a_0.f), (.int .i64 left_1)] (enc_i64 y) :=
  fun_good E_ok (pc_good (hpc_laws_szWonS fu)) (fn := Try.f24) (c := body_laws_szWonS) (out := out_i64) (y := y) (by kernel_rfl) (by kernel_rfl) (by kernel_rfl) (lpok_laws_szWonS fu) (fun d hd => out_i64_enc d _ hd) ((ev_laws_szWonS fu a_0 left_1).trans hy)
theorem good_laws_szWonS (fu : Nat) : ∀ xs o, S_laws_szWonS fu xs = some o → ∀ y, o.x = some y → Good E Try.prog 24 xs (o.g y) := by
  intro xs o h y hy
  unfold S_laws_szWonS at h
  split at h
  · rename_i za0_0 na0_0 fa0_0 a1_0
    cases h
    exact goodv_laws_szWonS fu (⟨za0_0, na0_0, fa0_0⟩ : (Sl S_impl_Won)) a1_0 y hy
  · cases h

/-! laws.szSealS -/
def F_laws_szSealS (fu : Nat) (a_0 : (Sl S_laws_Seal)) (left_1 : Int) : Option (Int) :=
  (bif (decide ((IntKind.wrap .i64 (left_1 - ((a_0.n : Nat) : Int))) < 0)) then (some (-1)) else (some (IntKind.wrap .i64 (left_1 - ((a_0.n : Nat) : Int)))))
def pc_laws_szSealS (fu : Nat) : Pc RT den := fun f xs => none
def msk_laws_szSealS (b : Nat) : List Nat := []
def lp_laws_szSealS (fu : Nat) : Lp RT den (Int) := fun b s k => none
theorem ev_laws_szSealS (fu : Nat) (a_0 : (Sl S_laws_Seal)) (left_1 : Int) : evFun E (pc_laws_szSealS fu) msk_laws_szSealS (lp_laws_szSealS fu) out_i64 25 [(.rs a_0.z .laws_Seal a_0.n a_0.f), (.int .i64 left_1)] = F_laws_szSealS fu a_0 left_1 := by kernel_rfl
noncomputable def body_laws_szSealS : Code := Try.f25.body.getD .skip
theorem lpok_laws_szSealS (fu : Nat) : LpOk E (pc_laws_szSealS fu) msk_laws_szSealS (lp_laws_szSealS fu) (loops 0 body_laws_szSealS) := by
  have h : loops 0 body_laws_szSealS = [] := by kernel_rfl
  rw [h]; intro p hp; cases hp
def S_laws_szSealS (fu : Nat) (xs : List (D RT den)) : Option (Out RT den) := match xs with | [.rs za0_0 .laws_Seal na0_0 fa0_0, .int .i64 a1_0] => some ⟨Int, F_laws_szSealS fu (⟨za0_0, na0_0, fa0_0⟩ : (Sl S_laws_Seal)) a1_0, enc_i64, fun _ => true⟩ | _ => none
theorem hpc_laws_szSealS (fu : Nat) : ∀ f xs o, pc_laws_szSealS fu f xs = some o → ∀ y, o.x = some y → Good E Try.prog f xs (o.g y) := by
  intro f xs o h
  cases h
theorem goodv_laws_szSealS (fu : Nat) (a_0 : (Sl S_laws_Seal)) (left_1 : Int) (y : Int) (hy : F_laws_szSealS fu a_0 left_1 = some y) : Good E Try.prog 25 [(.rs a_0.z .laws_Seal a_0.n a_0.f), (.int .i64 left_1)] (enc_i64 y) :=
  fun_good E_ok (pc_good (hpc_laws_szSealS fu)) (fn := Try.f25) (c := body_laws_szSealS) (out := out_i64) (y := y) (by kernel_rfl) (by kernel_rfl) (by kernel_rfl) (lpok_laws_szSealS fu) (fun d hd => out_i64_enc d _ hd) ((ev_laws_szSealS fu a_0 left_1).trans hy)
theorem good_laws_szSealS (fu : Nat) : ∀ xs o, S_laws_szSealS fu xs = some o → ∀ y, o.x = some y → Good E Try.prog 25 xs (o.g y) := by
  intro xs o h y hy
  unfold S_laws_szSealS at h
  split at h
  · rename_i za0_0 na0_0 fa0_0 a1_0
    cases h
    exact goodv_laws_szSealS fu (⟨za0_0, na0_0, fa0_0⟩ : (Sl S_laws_Seal)) a1_0 y hy
  · cases h

/-! laws.szCluster -/
def F_laws_szCluster (fu : Nat) (a_0 : S_laws_Cluster) (left_1 : Int) : Option (Int) :=
  ((F_laws_szNodeS fu a_0.Nodes left_1).bind fun y8 => (bif (decide (y8 < 0)) then (some (-1)) else ((F_laws_szMailS fu a_0.Mails y8).bind fun y9 => (bif (decide (y9 < 0)) then
    (some (-1)) else ((F_laws_szWonS fu a_0.Wins y9).bind fun y10 => (bif (decide (y10 < 0)) then (some (-1)) else ((F_laws_szSealS fu a_0.Seals y10).bind fun y11 => (bif (decide (y11 < 0)) then
    (some (-1)) else (some y11)))))))))
def pc_laws_szCluster (fu : Nat) : Pc RT den := fun f xs => match f with | 22 => S_laws_szNodeS fu xs | 23 => S_laws_szMailS fu xs | 24 => S_laws_szWonS fu xs | 25 => S_laws_szSealS fu xs | _ => none
def msk_laws_szCluster (b : Nat) : List Nat := []
def lp_laws_szCluster (fu : Nat) : Lp RT den (Int) := fun b s k => none
theorem ev_laws_szCluster (fu : Nat) (a_0 : S_laws_Cluster) (left_1 : Int) : evFun E (pc_laws_szCluster fu) msk_laws_szCluster (lp_laws_szCluster fu) out_i64 7 [(.agg [(.rs a_0.Nodes.z .laws_Node a_0.Nodes.n a_0.Nodes.f), (.rs a_0.Mails.z .laws_Mail a_0.Mails.n a_0.Mails.f), (.rs a_0.Wins.z .impl_Won a_0.Wins.n a_0.Wins.f), (.rs a_0.Seals.z .laws_Seal a_0.Seals.n a_0.Seals.f)]), (.int .i64 left_1)] = F_laws_szCluster fu a_0 left_1 := by kernel_rfl
noncomputable def body_laws_szCluster : Code := Try.f7.body.getD .skip
theorem lpok_laws_szCluster (fu : Nat) : LpOk E (pc_laws_szCluster fu) msk_laws_szCluster (lp_laws_szCluster fu) (loops 0 body_laws_szCluster) := by
  have h : loops 0 body_laws_szCluster = [] := by kernel_rfl
  rw [h]; intro p hp; cases hp
def S_laws_szCluster (fu : Nat) (xs : List (D RT den)) : Option (Out RT den) := match xs with | [.agg [.rs za0_1 .laws_Node na0_1 fa0_1, .rs za0_2 .laws_Mail na0_2 fa0_2, .rs za0_3 .impl_Won na0_3 fa0_3, .rs za0_4 .laws_Seal na0_4 fa0_4], .int .i64 a1_0] => some ⟨Int, F_laws_szCluster fu (⟨(⟨za0_1, na0_1, fa0_1⟩ : (Sl S_laws_Node)), (⟨za0_2, na0_2, fa0_2⟩ : (Sl S_laws_Mail)), (⟨za0_3, na0_3, fa0_3⟩ : (Sl S_impl_Won)), (⟨za0_4, na0_4, fa0_4⟩ : (Sl S_laws_Seal))⟩ : S_laws_Cluster) a1_0, enc_i64, fun _ => true⟩ | _ => none
theorem hpc_laws_szCluster (fu : Nat) : ∀ f xs o, pc_laws_szCluster fu f xs = some o → ∀ y, o.x = some y → Good E Try.prog f xs (o.g y) := by
  intro f xs o h
  unfold pc_laws_szCluster at h
  split at h
  · exact good_laws_szNodeS fu xs o h
  · exact good_laws_szMailS fu xs o h
  · exact good_laws_szWonS fu xs o h
  · exact good_laws_szSealS fu xs o h
  · cases h
theorem goodv_laws_szCluster (fu : Nat) (a_0 : S_laws_Cluster) (left_1 : Int) (y : Int) (hy : F_laws_szCluster fu a_0 left_1 = some y) : Good E Try.prog 7 [(.agg [(.rs a_0.Nodes.z .laws_Node a_0.Nodes.n a_0.Nodes.f), (.rs a_0.Mails.z .laws_Mail a_0.Mails.n a_0.Mails.f), (.rs a_0.Wins.z .impl_Won a_0.Wins.n a_0.Wins.f), (.rs a_0.Seals.z .laws_Seal a_0.Seals.n a_0.Seals.f)]), (.int .i64 left_1)] (enc_i64 y) :=
  fun_good E_ok (pc_good (hpc_laws_szCluster fu)) (fn := Try.f7) (c := body_laws_szCluster) (out := out_i64) (y := y) (by kernel_rfl) (by kernel_rfl) (by kernel_rfl) (lpok_laws_szCluster fu) (fun d hd => out_i64_enc d _ hd) ((ev_laws_szCluster fu a_0 left_1).trans hy)
theorem good_laws_szCluster (fu : Nat) : ∀ xs o, S_laws_szCluster fu xs = some o → ∀ y, o.x = some y → Good E Try.prog 7 xs (o.g y) := by
  intro xs o h y hy
  unfold S_laws_szCluster at h
  split at h
  · rename_i za0_1 na0_1 fa0_1 za0_2 na0_2 fa0_2 za0_3 na0_3 fa0_3 za0_4 na0_4 fa0_4 a1_0
    cases h
    exact goodv_laws_szCluster fu (⟨(⟨za0_1, na0_1, fa0_1⟩ : (Sl S_laws_Node)), (⟨za0_2, na0_2, fa0_2⟩ : (Sl S_laws_Mail)), (⟨za0_3, na0_3, fa0_3⟩ : (Sl S_impl_Won)), (⟨za0_4, na0_4, fa0_4⟩ : (Sl S_laws_Seal))⟩ : S_laws_Cluster) a1_0 y hy
  · cases h

/-! laws.toCmd -/
def F_laws_toCmd (fu : Nat) (a_0 : S_impl_Cmd) : Option (S_impl_Cmd) :=
  (some a_0)
def pc_laws_toCmd (fu : Nat) : Pc RT den := fun f xs => none
def msk_laws_toCmd (b : Nat) : List Nat := []
def lp_laws_toCmd (fu : Nat) : Lp RT den (S_impl_Cmd) := fun b s k => none
theorem ev_laws_toCmd (fu : Nat) (a_0 : S_impl_Cmd) : evFun E (pc_laws_toCmd fu) msk_laws_toCmd (lp_laws_toCmd fu) out_impl_Cmd 112 [(.agg [(.int .i64 a_0.Kind), (.int .i64 a_0.Expect), (.int .i64 a_0.Name), (.int .i64 a_0.Addr), (.int .i64 a_0.Number), (.int .i64 a_0.Proto)])] = F_laws_toCmd fu a_0 := by kernel_rfl
noncomputable def body_laws_toCmd : Code := Try.f112.body.getD .skip
theorem lpok_laws_toCmd (fu : Nat) : LpOk E (pc_laws_toCmd fu) msk_laws_toCmd (lp_laws_toCmd fu) (loops 0 body_laws_toCmd) := by
  have h : loops 0 body_laws_toCmd = [] := by kernel_rfl
  rw [h]; intro p hp; cases hp
def S_laws_toCmd (fu : Nat) (xs : List (D RT den)) : Option (Out RT den) := match xs with | [.agg [.int .i64 a0_1, .int .i64 a0_2, .int .i64 a0_3, .int .i64 a0_4, .int .i64 a0_5, .int .i64 a0_6]] => some ⟨S_impl_Cmd, F_laws_toCmd fu (⟨a0_1, a0_2, a0_3, a0_4, a0_5, a0_6⟩ : S_impl_Cmd), enc_impl_Cmd, fun _ => true⟩ | _ => none
theorem hpc_laws_toCmd (fu : Nat) : ∀ f xs o, pc_laws_toCmd fu f xs = some o → ∀ y, o.x = some y → Good E Try.prog f xs (o.g y) := by
  intro f xs o h
  cases h
theorem goodv_laws_toCmd (fu : Nat) (a_0 : S_impl_Cmd) (y : S_impl_Cmd) (hy : F_laws_toCmd fu a_0 = some y) : Good E Try.prog 112 [(.agg [(.int .i64 a_0.Kind), (.int .i64 a_0.Expect), (.int .i64 a_0.Name), (.int .i64 a_0.Addr), (.int .i64 a_0.Number), (.int .i64 a_0.Proto)])] (enc_impl_Cmd y) :=
  fun_good E_ok (pc_good (hpc_laws_toCmd fu)) (fn := Try.f112) (c := body_laws_toCmd) (out := out_impl_Cmd) (y := y) (by kernel_rfl) (by kernel_rfl) (by kernel_rfl) (lpok_laws_toCmd fu) (fun d hd => out_impl_Cmd_enc d _ hd) ((ev_laws_toCmd fu a_0).trans hy)
theorem good_laws_toCmd (fu : Nat) : ∀ xs o, S_laws_toCmd fu xs = some o → ∀ y, o.x = some y → Good E Try.prog 112 xs (o.g y) := by
  intro xs o h y hy
  unfold S_laws_toCmd at h
  split at h
  · rename_i a0_1 a0_2 a0_3 a0_4 a0_5 a0_6
    cases h
    exact goodv_laws_toCmd fu (⟨a0_1, a0_2, a0_3, a0_4, a0_5, a0_6⟩ : S_impl_Cmd) y hy
  · cases h

/-! laws.toEntry -/
def F_laws_toEntry (fu : Nat) (a_0 : S_laws_Entry) : Option (S_impl_Entry) :=
  ((F_laws_toCmd fu a_0.Cmd).bind fun y35 => (some (⟨a_0.Term, a_0.Client, a_0.Seq, y35⟩ : S_impl_Entry)))
def pc_laws_toEntry (fu : Nat) : Pc RT den := fun f xs => match f with | 112 => S_laws_toCmd fu xs | _ => none
def msk_laws_toEntry (b : Nat) : List Nat := []
def lp_laws_toEntry (fu : Nat) : Lp RT den (S_impl_Entry) := fun b s k => none
theorem ev_laws_toEntry (fu : Nat) (a_0 : S_laws_Entry) : evFun E (pc_laws_toEntry fu) msk_laws_toEntry (lp_laws_toEntry fu) out_impl_Entry 93 [(.agg [(.int .i64 a_0.Term), (.int .i64 a_0.Client), (.int .i64 a_0.Seq), (.int .i64 a_0.Cmd.Kind), (.int .i64 a_0.Cmd.Expect), (.int .i64 a_0.Cmd.Name), (.int .i64 a_0.Cmd.Addr), (.int .i64 a_0.Cmd.Number), (.int .i64 a_0.Cmd.Proto)])] = F_laws_toEntry fu a_0 := by kernel_rfl
noncomputable def body_laws_toEntry : Code := Try.f93.body.getD .skip
theorem lpok_laws_toEntry (fu : Nat) : LpOk E (pc_laws_toEntry fu) msk_laws_toEntry (lp_laws_toEntry fu) (loops 0 body_laws_toEntry) := by
  have h : loops 0 body_laws_toEntry = [] := by kernel_rfl
  rw [h]; intro p hp; cases hp
def S_laws_toEntry (fu : Nat) (xs : List (D RT den)) : Option (Out RT den) := match xs with | [.agg [.int .i64 a0_1, .int .i64 a0_2, .int .i64 a0_3, .int .i64 a0_5, .int .i64 a0_6, .int .i64 a0_7, .int .i64 a0_8, .int .i64 a0_9, .int .i64 a0_10]] => some ⟨S_impl_Entry, F_laws_toEntry fu (⟨a0_1, a0_2, a0_3, (⟨a0_5, a0_6, a0_7, a0_8, a0_9, a0_10⟩ : S_impl_Cmd)⟩ : S_laws_Entry), enc_impl_Entry, fun _ => true⟩ | _ => none
theorem hpc_laws_toEntry (fu : Nat) : ∀ f xs o, pc_laws_toEntry fu f xs = some o → ∀ y, o.x = some y → Good E Try.prog f xs (o.g y) := by
  intro f xs o h
  unfold pc_laws_toEntry at h
  split at h
  · exact good_laws_toCmd fu xs o h
  · cases h
theorem goodv_laws_toEntry (fu : Nat) (a_0 : S_laws_Entry) (y : S_impl_Entry) (hy : F_laws_toEntry fu a_0 = some y) : Good E Try.prog 93 [(.agg [(.int .i64 a_0.Term), (.int .i64 a_0.Client), (.int .i64 a_0.Seq), (.int .i64 a_0.Cmd.Kind), (.int .i64 a_0.Cmd.Expect), (.int .i64 a_0.Cmd.Name), (.int .i64 a_0.Cmd.Addr), (.int .i64 a_0.Cmd.Number), (.int .i64 a_0.Cmd.Proto)])] (enc_impl_Entry y) :=
  fun_good E_ok (pc_good (hpc_laws_toEntry fu)) (fn := Try.f93) (c := body_laws_toEntry) (out := out_impl_Entry) (y := y) (by kernel_rfl) (by kernel_rfl) (by kernel_rfl) (lpok_laws_toEntry fu) (fun d hd => out_impl_Entry_enc d _ hd) ((ev_laws_toEntry fu a_0).trans hy)
theorem good_laws_toEntry (fu : Nat) : ∀ xs o, S_laws_toEntry fu xs = some o → ∀ y, o.x = some y → Good E Try.prog 93 xs (o.g y) := by
  intro xs o h y hy
  unfold S_laws_toEntry at h
  split at h
  · rename_i a0_1 a0_2 a0_3 a0_5 a0_6 a0_7 a0_8 a0_9 a0_10
    cases h
    exact goodv_laws_toEntry fu (⟨a0_1, a0_2, a0_3, (⟨a0_5, a0_6, a0_7, a0_8, a0_9, a0_10⟩ : S_impl_Cmd)⟩ : S_laws_Entry) y hy
  · cases h

/-! laws.toEntryS -/
def F_laws_toEntryS_B0 {ρ : Type} (fu : Nat) (a0_0 : (Sl S_laws_Entry)) (out3_1 : Nat) (on0_3 : Nat) (k0 : (Nat → S_impl_Entry) → Option ρ) (i4_2 : Int) (of0_4 : (Nat → S_impl_Entry)) (go : Int → (Nat → S_impl_Entry) → Option ρ) : Option ρ :=
  (bif (decide (i4_2 < ((a0_0.n : Nat) : Int))) then ((bif (decide (0 ≤ i4_2) && decide ((Int.toNat i4_2) < a0_0.n)) then some () else none : Option Unit).bind fun _ =>
    ((F_laws_toEntry fu (a0_0.f (Int.toNat i4_2))).bind fun y33 => ((bif (decide (0 ≤ i4_2) && decide ((Int.toNat i4_2) < out3_1)) then some () else none : Option Unit).bind fun _ =>
    (go (IntKind.wrap .i64 (i4_2 + 1)) (fun j => if j = (Int.toNat i4_2) then y33 else of0_4 j))))) else (k0 of0_4))
def F_laws_toEntryS (fu : Nat) (a_0 : (Sl S_laws_Entry)) : Option ((Sl S_impl_Entry)) :=
  (bif (decide (0 ≤ ((a_0.n : Nat) : Int)) && (decide (((a_0.n : Nat) : Int) = ((a_0.n : Nat) : Int)) && (decide ((72 : Int) * ((a_0.n : Nat) : Int) ≤ 281474976710656) && decide (((a_0.n : Nat) : Int) ≤ 9223372036854775807)))) then
    (L (fun w0 go0 => F_laws_toEntryS_B0 fu a_0 (Int.toNat ((a_0.n : Nat) : Int)) (Int.toNat ((a_0.n : Nat) : Int)) (fun z34 => (some (⟨none, (Int.toNat ((a_0.n : Nat) : Int)), z34⟩ : (Sl S_impl_Entry)))) w0.1 w0.2 (fun q0 q1 =>
    go0 (q0, q1))) fu ((0, (fun _ => (⟨0, 0, 0, (⟨0, 0, 0, 0, 0, 0⟩ : S_impl_Cmd)⟩ : S_impl_Entry))) : Int × (Nat → S_impl_Entry))) else none)
def pc_laws_toEntryS (fu : Nat) : Pc RT den := fun f xs => match f with | 93 => S_laws_toEntry fu xs | _ => none
def msk_laws_toEntryS (b : Nat) : List Nat := match b with | 0 => [1, 2, 5, 6, 7, 8, 9, 10, 11, 12, 13, 14, 15, 16, 17, 18, 19, 20, 21, 22] | 100000 => [0, 1, 4, 5, 6, 7, 8, 9, 10, 11, 12, 13, 14, 15, 16, 17, 18, 19, 20, 21, 22] | _ => []
def ps_laws_toEntryS_0 : List (Pat RT) := [.flat (.rs .laws_Entry), .flat .dead, .flat .dead, .flat (.os 0), .flat (.int .i64), .flat .dead, .flat .dead, .flat .dead, .flat .dead, .flat .dead, .flat .dead, .flat .dead, .flat .dead, .flat .dead, .flat .dead, .flat .dead, .flat .dead, .flat .dead, .flat .dead, .flat .dead, .flat .dead, .flat .dead, .flat .dead]
def os_laws_toEntryS_0 : List (OP RT) := [.row .impl_Entry]
def conv_laws_toEntryS_0 (r : Raw den ps_laws_toEntryS_0 os_laws_toEntryS_0) : ((Sl S_laws_Entry) × Nat × Nat) × (Int × (Nat → S_impl_Entry)) := ((r.1.1, r.1.2.2.2.1, r.2.1.1), (r.1.2.2.2.2.1, r.2.1.2))
def back_laws_toEntryS_0 (c : (Sl S_laws_Entry) × Nat × Nat) (w : Int × (Nat → S_impl_Entry)) : St RT den := ⟨[(.rs c.1.z .laws_Entry c.1.n c.1.f), .dead, .dead, (.os 0 c.2.1), (.int .i64 w.1), .dead, .dead, .dead, .dead, .dead, .dead, .dead, .dead, .dead, .dead, .dead, .dead, .dead, .dead, .dead, .dead, .dead, .dead], [(.row .impl_Entry c.2.2 w.2)]⟩
def Bk_laws_toEntryS_0 {ρ : Type} (fu : Nat) (c : (Sl S_laws_Entry) × Nat × Nat) (k : Ex → St RT den → Option ρ) (w : Int × (Nat → S_impl_Entry)) (go : (Int × (Nat → S_impl_Entry)) → Option ρ) : Option ρ := F_laws_toEntryS_B0 fu c.1 c.2.1 c.2.2 (fun a0 => k (.exit 0) ⟨[.dead, .dead, .dead, (.os 0 c.2.1), .dead, .dead, .dead, .dead, .dead, .dead, .dead, .dead, .dead, .dead, .dead, .dead, .dead, .dead, .dead, .dead, .dead, .dead, .dead], [(.row .impl_Entry c.2.2 a0)]⟩) w.1 w.2 (fun q0 q1 => go (q0, q1))
def lp_laws_toEntryS (fu : Nat) : Lp RT den ((Sl S_impl_Entry)) := fun b s k => match b with | 0 => handle ps_laws_toEntryS_0 os_laws_toEntryS_0 conv_laws_toEntryS_0 (Bk_laws_toEntryS_0 fu) fu s k | _ => none
theorem ev_laws_toEntryS (fu : Nat) (a_0 : (Sl S_laws_Entry)) : evFun E (pc_laws_toEntryS fu) msk_laws_toEntryS (lp_laws_toEntryS fu) out_sl_impl_Entry 91 [(.rs a_0.z .laws_Entry a_0.n a_0.f)] = F_laws_toEntryS fu a_0 := by kernel_rfl
noncomputable def body_laws_toEntryS : Code := Try.f91.body.getD .skip
noncomputable def lc_laws_toEntryS_0 : Code := ((loops 0 body_laws_toEntryS).getD 0 (0, .skip)).2
theorem round_laws_toEntryS_0 (fu : Nat) (it : St RT den → Option ((Sl S_impl_Entry))) (k : Ex → St RT den → Option ((Sl S_impl_Entry))) c w : evCode E (pc_laws_toEntryS fu) msk_laws_toEntryS (lp_laws_toEntryS fu) 0 lc_laws_toEntryS_0 (back_laws_toEntryS_0 c w) (after (msk_laws_toEntryS 0) (msk_laws_toEntryS 100000) 1 it k) = Bk_laws_toEntryS_0 fu c k w (fun w => it (back_laws_toEntryS_0 c w)) := by kernel_rfl
theorem lpok_laws_toEntryS_0 (fu : Nat) : ∀ s k r, lp_laws_toEntryS fu 0 s k = some r → ∃ fuel, iter (msk_laws_toEntryS 0) (msk_laws_toEntryS 100000) s.objs.length (evCode E (pc_laws_toEntryS fu) msk_laws_toEntryS (lp_laws_toEntryS fu) 0 lc_laws_toEntryS_0) fuel s k = some r :=
  handle_ok (ps := ps_laws_toEntryS_0) (os := os_laws_toEntryS_0) (conv := conv_laws_toEntryS_0) (B := Bk_laws_toEntryS_0 fu) (fu := fu) back_laws_toEntryS_0 (fun raw => by kernel_rfl) 1 (fun c w => by kernel_rfl) (round_laws_toEntryS_0 fu)
theorem lpok_laws_toEntryS (fu : Nat) : LpOk E (pc_laws_toEntryS fu) msk_laws_toEntryS (lp_laws_toEntryS fu) (loops 0 body_laws_toEntryS) := loop_all 1 (by kernel_rfl) fun i hi => match i, hi with
  | 0, _ => by
    have h : (loops 0 body_laws_toEntryS).getD 0 (0, .skip) = (0, lc_laws_toEntryS_0) := by kernel_rfl
    rw [h]; exact lpok_laws_toEntryS_0 fu
  | i + 1, hi => absurd hi (by omega)
def S_laws_toEntryS (fu : Nat) (xs : List (D RT den)) : Option (Out RT den) := match xs with | [.rs za0_0 .laws_Entry na0_0 fa0_0] => some ⟨(Sl S_impl_Entry), F_laws_toEntryS fu (⟨za0_0, na0_0, fa0_0⟩ : (Sl S_laws_Entry)), enc_sl_impl_Entry, fun _ => true⟩ | _ => none
theorem hpc_laws_toEntryS (fu : Nat) : ∀ f xs o, pc_laws_toEntryS fu f xs = some o → ∀ y, o.x = some y → Good E Try.prog f xs (o.g y) := by
  intro f xs o h
  unfold pc_laws_toEntryS at h
  split at h
  · exact good_laws_toEntry fu xs o h
  · cases h
theorem goodv_laws_toEntryS (fu : Nat) (a_0 : (Sl S_laws_Entry)) (y : (Sl S_impl_Entry)) (hy : F_laws_toEntryS fu a_0 = some y) : Good E Try.prog 91 [(.rs a_0.z .laws_Entry a_0.n a_0.f)] (enc_sl_impl_Entry y) :=
  fun_good E_ok (pc_good (hpc_laws_toEntryS fu)) (fn := Try.f91) (c := body_laws_toEntryS) (out := out_sl_impl_Entry) (y := y) (by kernel_rfl) (by kernel_rfl) (by kernel_rfl) (lpok_laws_toEntryS fu) (fun d hd => out_sl_impl_Entry_enc d _ hd) ((ev_laws_toEntryS fu a_0).trans hy)
theorem good_laws_toEntryS (fu : Nat) : ∀ xs o, S_laws_toEntryS fu xs = some o → ∀ y, o.x = some y → Good E Try.prog 91 xs (o.g y) := by
  intro xs o h y hy
  unfold S_laws_toEntryS at h
  split at h
  · rename_i za0_0 na0_0 fa0_0
    cases h
    exact goodv_laws_toEntryS fu (⟨za0_0, na0_0, fa0_0⟩ : (Sl S_laws_Entry)) y hy
  · cases h

/-! laws.toInt64S -/
def F_laws_toInt64S_B0 {ρ : Type} (fu : Nat) (a0_0 : (Sl Int)) (out3_1 : Nat) (on0_3 : Nat) (k0 : (Nat → Int) → Option ρ) (i4_2 : Int) (of0_4 : (Nat → Int)) (go : Int → (Nat → Int) → Option ρ) : Option ρ :=
  (bif (decide (i4_2 < ((a0_0.n : Nat) : Int))) then ((bif (decide (0 ≤ i4_2) && decide ((Int.toNat i4_2) < a0_0.n)) then some () else none : Option Unit).bind fun _ => ((bif (decide (0 ≤ i4_2) &&
    decide ((Int.toNat i4_2) < out3_1)) then some () else none : Option Unit).bind fun _ => (go (IntKind.wrap .i64 (i4_2 + 1)) (fun j => if j = (Int.toNat i4_2) then (a0_0.f (Int.toNat i4_2)) else
    of0_4 j)))) else (k0 of0_4))
def F_laws_toInt64S (fu : Nat) (a_0 : (Sl Int)) : Option ((Sl Int)) :=
  (bif (decide (0 ≤ ((a_0.n : Nat) : Int)) && (decide (((a_0.n : Nat) : Int) = ((a_0.n : Nat) : Int)) && (decide ((8 : Int) * ((a_0.n : Nat) : Int) ≤ 281474976710656) && decide (((a_0.n : Nat) : Int) ≤ 9223372036854775807)))) then
    (L (fun w0 go0 => F_laws_toInt64S_B0 fu a_0 (Int.toNat ((a_0.n : Nat) : Int)) (Int.toNat ((a_0.n : Nat) : Int)) (fun z36 => (some (⟨none, (Int.toNat ((a_0.n : Nat) : Int)), z36⟩ : (Sl Int)))) w0.1 w0.2 (fun q0 q1 =>
    go0 (q0, q1))) fu ((0, (fun _ => 0)) : Int × (Nat → Int))) else none)
def pc_laws_toInt64S (fu : Nat) : Pc RT den := fun f xs => none
def msk_laws_toInt64S (b : Nat) : List Nat := match b with | 0 => [1, 2, 5, 6, 7, 8, 9, 10, 11, 12, 13, 14, 15, 16, 17, 18, 19, 20, 21] | 100000 => [0, 1, 4, 5, 6, 7, 8, 9, 10, 11, 12, 13, 14, 15, 16, 17, 18, 19, 20, 21] | _ => []
def ps_laws_toInt64S_0 : List (Pat RT) := [.flat (.rs .i64), .flat .dead, .flat .dead, .flat (.os 0), .flat (.int .i64), .flat .dead, .flat .dead, .flat .dead, .flat .dead, .flat .dead, .flat .dead, .flat .dead, .flat .dead, .flat .dead, .flat .dead, .flat .dead, .flat .dead, .flat .dead, .flat .dead, .flat .dead, .flat .dead, .flat .dead]
def os_laws_toInt64S_0 : List (OP RT) := [.row .i64]
def conv_laws_toInt64S_0 (r : Raw den ps_laws_toInt64S_0 os_laws_toInt64S_0) : ((Sl Int) × Nat × Nat) × (Int × (Nat → Int)) := ((r.1.1, r.1.2.2.2.1, r.2.1.1), (r.1.2.2.2.2.1, r.2.1.2))
def back_laws_toInt64S_0 (c : (Sl Int) × Nat × Nat) (w : Int × (Nat → Int)) : St RT den := ⟨[(.rs c.1.z .i64 c.1.n c.1.f), .dead, .dead, (.os 0 c.2.1), (.int .i64 w.1), .dead, .dead, .dead, .dead, .dead, .dead, .dead, .dead, .dead, .dead, .dead, .dead, .dead, .dead, .dead, .dead, .dead], [(.row .i64 c.2.2 w.2)]⟩
def Bk_laws_toInt64S_0 {ρ : Type} (fu : Nat) (c : (Sl Int) × Nat × Nat) (k : Ex → St RT den → Option ρ) (w : Int × (Nat → Int)) (go : (Int × (Nat → Int)) → Option ρ) : Option ρ := F_laws_toInt64S_B0 fu c.1 c.2.1 c.2.2 (fun a0 => k (.exit 0) ⟨[.dead, .dead, .dead, (.os 0 c.2.1), .dead, .dead, .dead, .dead, .dead, .dead, .dead, .dead, .dead, .dead, .dead, .dead, .dead, .dead, .dead, .dead, .dead, .dead], [(.row .i64 c.2.2 a0)]⟩) w.1 w.2 (fun q0 q1 => go (q0, q1))
def lp_laws_toInt64S (fu : Nat) : Lp RT den ((Sl Int)) := fun b s k => match b with | 0 => handle ps_laws_toInt64S_0 os_laws_toInt64S_0 conv_laws_toInt64S_0 (Bk_laws_toInt64S_0 fu) fu s k | _ => none
theorem ev_laws_toInt64S (fu : Nat) (a_0 : (Sl Int)) : evFun E (pc_laws_toInt64S fu) msk_laws_toInt64S (lp_laws_toInt64S fu) out_sl_i64 92 [(.rs a_0.z .i64 a_0.n a_0.f)] = F_laws_toInt64S fu a_0 := by kernel_rfl
noncomputable def body_laws_toInt64S : Code := Try.f92.body.getD .skip
noncomputable def lc_laws_toInt64S_0 : Code := ((loops 0 body_laws_toInt64S).getD 0 (0, .skip)).2
theorem round_laws_toInt64S_0 (fu : Nat) (it : St RT den → Option ((Sl Int))) (k : Ex → St RT den → Option ((Sl Int))) c w : evCode E (pc_laws_toInt64S fu) msk_laws_toInt64S (lp_laws_toInt64S fu) 0 lc_laws_toInt64S_0 (back_laws_toInt64S_0 c w) (after (msk_laws_toInt64S 0) (msk_laws_toInt64S 100000) 1 it k) = Bk_laws_toInt64S_0 fu c k w (fun w => it (back_laws_toInt64S_0 c w)) := by kernel_rfl
theorem lpok_laws_toInt64S_0 (fu : Nat) : ∀ s k r, lp_laws_toInt64S fu 0 s k = some r → ∃ fuel, iter (msk_laws_toInt64S 0) (msk_laws_toInt64S 100000) s.objs.length (evCode E (pc_laws_toInt64S fu) msk_laws_toInt64S (lp_laws_toInt64S fu) 0 lc_laws_toInt64S_0) fuel s k = some r :=
  handle_ok (ps := ps_laws_toInt64S_0) (os := os_laws_toInt64S_0) (conv := conv_laws_toInt64S_0) (B := Bk_laws_toInt64S_0 fu) (fu := fu) back_laws_toInt64S_0 (fun raw => by kernel_rfl) 1 (fun c w => by kernel_rfl) (round_laws_toInt64S_0 fu)
theorem lpok_laws_toInt64S (fu : Nat) : LpOk E (pc_laws_toInt64S fu) msk_laws_toInt64S (lp_laws_toInt64S fu) (loops 0 body_laws_toInt64S) := loop_all 1 (by kernel_rfl) fun i hi => match i, hi with
  | 0, _ => by
    have h : (loops 0 body_laws_toInt64S).getD 0 (0, .skip) = (0, lc_laws_toInt64S_0) := by kernel_rfl
    rw [h]; exact lpok_laws_toInt64S_0 fu
  | i + 1, hi => absurd hi (by omega)
def S_laws_toInt64S (fu : Nat) (xs : List (D RT den)) : Option (Out RT den) := match xs with | [.rs za0_0 .i64 na0_0 fa0_0] => some ⟨(Sl Int), F_laws_toInt64S fu (⟨za0_0, na0_0, fa0_0⟩ : (Sl Int)), enc_sl_i64, fun _ => true⟩ | _ => none
theorem hpc_laws_toInt64S (fu : Nat) : ∀ f xs o, pc_laws_toInt64S fu f xs = some o → ∀ y, o.x = some y → Good E Try.prog f xs (o.g y) := by
  intro f xs o h
  cases h
theorem goodv_laws_toInt64S (fu : Nat) (a_0 : (Sl Int)) (y : (Sl Int)) (hy : F_laws_toInt64S fu a_0 = some y) : Good E Try.prog 92 [(.rs a_0.z .i64 a_0.n a_0.f)] (enc_sl_i64 y) :=
  fun_good E_ok (pc_good (hpc_laws_toInt64S fu)) (fn := Try.f92) (c := body_laws_toInt64S) (out := out_sl_i64) (y := y) (by kernel_rfl) (by kernel_rfl) (by kernel_rfl) (lpok_laws_toInt64S fu) (fun d hd => out_sl_i64_enc d _ hd) ((ev_laws_toInt64S fu a_0).trans hy)
theorem good_laws_toInt64S (fu : Nat) : ∀ xs o, S_laws_toInt64S fu xs = some o → ∀ y, o.x = some y → Good E Try.prog 92 xs (o.g y) := by
  intro xs o h y hy
  unfold S_laws_toInt64S at h
  split at h
  · rename_i za0_0 na0_0 fa0_0
    cases h
    exact goodv_laws_toInt64S fu (⟨za0_0, na0_0, fa0_0⟩ : (Sl Int)) y hy
  · cases h

/-! laws.toNode -/
def F_laws_toNode (fu : Nat) (a_0 : S_laws_Node) : Option (S_impl_Node) :=
  ((F_laws_toEntryS fu a_0.Log).bind fun y29 => ((F_laws_toInt64S fu a_0.Votes).bind fun y30 => ((F_laws_toInt64S fu a_0.Next).bind fun y31 => ((F_laws_toInt64S fu a_0.Match).bind fun y32 =>
    (some (⟨a_0.Id, a_0.Peers, a_0.Term, a_0.Voted, y29, a_0.Role, a_0.Commit, y30, y31, y32⟩ : S_impl_Node))))))
def pc_laws_toNode (fu : Nat) : Pc RT den := fun f xs => match f with | 91 => S_laws_toEntryS fu xs | 92 => S_laws_toInt64S fu xs | _ => none
def msk_laws_toNode (b : Nat) : List Nat := []
def lp_laws_toNode (fu : Nat) : Lp RT den (S_impl_Node) := fun b s k => none
theorem ev_laws_toNode (fu : Nat) (a_0 : S_laws_Node) : evFun E (pc_laws_toNode fu) msk_laws_toNode (lp_laws_toNode fu) out_impl_Node 61 [(.agg [(.int .i64 a_0.Id), (.int .i64 a_0.Peers), (.int .i64 a_0.Term), (.int .i64 a_0.Voted), (.rs a_0.Log.z .laws_Entry a_0.Log.n a_0.Log.f), (.int .i64 a_0.Role), (.int .i64 a_0.Commit), (.rs a_0.Votes.z .i64 a_0.Votes.n a_0.Votes.f), (.rs a_0.Next.z .i64 a_0.Next.n a_0.Next.f), (.rs a_0.Match.z .i64 a_0.Match.n a_0.Match.f)])] = F_laws_toNode fu a_0 := by kernel_rfl
noncomputable def body_laws_toNode : Code := Try.f61.body.getD .skip
theorem lpok_laws_toNode (fu : Nat) : LpOk E (pc_laws_toNode fu) msk_laws_toNode (lp_laws_toNode fu) (loops 0 body_laws_toNode) := by
  have h : loops 0 body_laws_toNode = [] := by kernel_rfl
  rw [h]; intro p hp; cases hp
def S_laws_toNode (fu : Nat) (xs : List (D RT den)) : Option (Out RT den) := match xs with | [.agg [.int .i64 a0_1, .int .i64 a0_2, .int .i64 a0_3, .int .i64 a0_4, .rs za0_5 .laws_Entry na0_5 fa0_5, .int .i64 a0_6, .int .i64 a0_7, .rs za0_8 .i64 na0_8 fa0_8, .rs za0_9 .i64 na0_9 fa0_9, .rs za0_10 .i64 na0_10 fa0_10]] => some ⟨S_impl_Node, F_laws_toNode fu (⟨a0_1, a0_2, a0_3, a0_4, (⟨za0_5, na0_5, fa0_5⟩ : (Sl S_laws_Entry)), a0_6, a0_7, (⟨za0_8, na0_8, fa0_8⟩ : (Sl Int)), (⟨za0_9, na0_9, fa0_9⟩ : (Sl Int)), (⟨za0_10, na0_10, fa0_10⟩ : (Sl Int))⟩ : S_laws_Node), enc_impl_Node, fun _ => true⟩ | _ => none
theorem hpc_laws_toNode (fu : Nat) : ∀ f xs o, pc_laws_toNode fu f xs = some o → ∀ y, o.x = some y → Good E Try.prog f xs (o.g y) := by
  intro f xs o h
  unfold pc_laws_toNode at h
  split at h
  · exact good_laws_toEntryS fu xs o h
  · exact good_laws_toInt64S fu xs o h
  · cases h
theorem goodv_laws_toNode (fu : Nat) (a_0 : S_laws_Node) (y : S_impl_Node) (hy : F_laws_toNode fu a_0 = some y) : Good E Try.prog 61 [(.agg [(.int .i64 a_0.Id), (.int .i64 a_0.Peers), (.int .i64 a_0.Term), (.int .i64 a_0.Voted), (.rs a_0.Log.z .laws_Entry a_0.Log.n a_0.Log.f), (.int .i64 a_0.Role), (.int .i64 a_0.Commit), (.rs a_0.Votes.z .i64 a_0.Votes.n a_0.Votes.f), (.rs a_0.Next.z .i64 a_0.Next.n a_0.Next.f), (.rs a_0.Match.z .i64 a_0.Match.n a_0.Match.f)])] (enc_impl_Node y) :=
  fun_good E_ok (pc_good (hpc_laws_toNode fu)) (fn := Try.f61) (c := body_laws_toNode) (out := out_impl_Node) (y := y) (by kernel_rfl) (by kernel_rfl) (by kernel_rfl) (lpok_laws_toNode fu) (fun d hd => out_impl_Node_enc d _ hd) ((ev_laws_toNode fu a_0).trans hy)
theorem good_laws_toNode (fu : Nat) : ∀ xs o, S_laws_toNode fu xs = some o → ∀ y, o.x = some y → Good E Try.prog 61 xs (o.g y) := by
  intro xs o h y hy
  unfold S_laws_toNode at h
  split at h
  · rename_i a0_1 a0_2 a0_3 a0_4 za0_5 na0_5 fa0_5 a0_6 a0_7 za0_8 na0_8 fa0_8 za0_9 na0_9 fa0_9 za0_10 na0_10 fa0_10
    cases h
    exact goodv_laws_toNode fu (⟨a0_1, a0_2, a0_3, a0_4, (⟨za0_5, na0_5, fa0_5⟩ : (Sl S_laws_Entry)), a0_6, a0_7, (⟨za0_8, na0_8, fa0_8⟩ : (Sl Int)), (⟨za0_9, na0_9, fa0_9⟩ : (Sl Int)), (⟨za0_10, na0_10, fa0_10⟩ : (Sl Int))⟩ : S_laws_Node) y hy
  · cases h

/-! laws.toNodeS -/
def F_laws_toNodeS_B0 {ρ : Type} (fu : Nat) (a0_0 : (Sl S_laws_Node)) (out3_1 : Nat) (on0_3 : Nat) (k0 : (Nat → S_impl_Node) → Option ρ) (i4_2 : Int) (of0_4 : (Nat → S_impl_Node)) (go : Int → (Nat → S_impl_Node) → Option ρ) : Option ρ :=
  (bif (decide (i4_2 < ((a0_0.n : Nat) : Int))) then ((bif (decide (0 ≤ i4_2) && decide ((Int.toNat i4_2) < a0_0.n)) then some () else none : Option Unit).bind fun _ =>
    ((F_laws_toNode fu (a0_0.f (Int.toNat i4_2))).bind fun y27 => ((bif (decide (0 ≤ i4_2) && decide ((Int.toNat i4_2) < out3_1)) then some () else none : Option Unit).bind fun _ =>
    (go (IntKind.wrap .i64 (i4_2 + 1)) (fun j => if j = (Int.toNat i4_2) then y27 else of0_4 j))))) else (k0 of0_4))
def F_laws_toNodeS (fu : Nat) (a_0 : (Sl S_laws_Node)) : Option ((Sl S_impl_Node)) :=
  (bif (decide (0 ≤ ((a_0.n : Nat) : Int)) && (decide (((a_0.n : Nat) : Int) = ((a_0.n : Nat) : Int)) && (decide ((144 : Int) * ((a_0.n : Nat) : Int) ≤ 281474976710656) && decide (((a_0.n : Nat) : Int) ≤ 9223372036854775807)))) then
    (L (fun w0 go0 => F_laws_toNodeS_B0 fu a_0 (Int.toNat ((a_0.n : Nat) : Int)) (Int.toNat ((a_0.n : Nat) : Int)) (fun z28 => (some (⟨none, (Int.toNat ((a_0.n : Nat) : Int)), z28⟩ : (Sl S_impl_Node)))) w0.1 w0.2 (fun q0 q1 =>
    go0 (q0, q1))) fu ((0, (fun _ => (⟨0, 0, 0, 0, (⟨(some true), 0, (fun _ => dflt .impl_Entry)⟩ : (Sl S_impl_Entry)), 0, 0, (⟨(some true), 0, (fun _ => dflt .i64)⟩ : (Sl Int)),
    (⟨(some true), 0, (fun _ => dflt .i64)⟩ : (Sl Int)), (⟨(some true), 0, (fun _ => dflt .i64)⟩ : (Sl Int))⟩ : S_impl_Node))) : Int × (Nat → S_impl_Node))) else none)
def pc_laws_toNodeS (fu : Nat) : Pc RT den := fun f xs => match f with | 61 => S_laws_toNode fu xs | _ => none
def msk_laws_toNodeS (b : Nat) : List Nat := match b with | 0 => [1, 2, 5, 6, 7, 8, 9, 10, 11, 12, 13, 14, 15, 16, 17, 18, 19, 20, 21, 22] | 100000 => [0, 1, 4, 5, 6, 7, 8, 9, 10, 11, 12, 13, 14, 15, 16, 17, 18, 19, 20, 21, 22] | _ => []
def ps_laws_toNodeS_0 : List (Pat RT) := [.flat (.rs .laws_Node), .flat .dead, .flat .dead, .flat (.os 0), .flat (.int .i64), .flat .dead, .flat .dead, .flat .dead, .flat .dead, .flat .dead, .flat .dead, .flat .dead, .flat .dead, .flat .dead, .flat .dead, .flat .dead, .flat .dead, .flat .dead, .flat .dead, .flat .dead, .flat .dead, .flat .dead, .flat .dead]
def os_laws_toNodeS_0 : List (OP RT) := [.row .impl_Node]
def conv_laws_toNodeS_0 (r : Raw den ps_laws_toNodeS_0 os_laws_toNodeS_0) : ((Sl S_laws_Node) × Nat × Nat) × (Int × (Nat → S_impl_Node)) := ((r.1.1, r.1.2.2.2.1, r.2.1.1), (r.1.2.2.2.2.1, r.2.1.2))
def back_laws_toNodeS_0 (c : (Sl S_laws_Node) × Nat × Nat) (w : Int × (Nat → S_impl_Node)) : St RT den := ⟨[(.rs c.1.z .laws_Node c.1.n c.1.f), .dead, .dead, (.os 0 c.2.1), (.int .i64 w.1), .dead, .dead, .dead, .dead, .dead, .dead, .dead, .dead, .dead, .dead, .dead, .dead, .dead, .dead, .dead, .dead, .dead, .dead], [(.row .impl_Node c.2.2 w.2)]⟩
def Bk_laws_toNodeS_0 {ρ : Type} (fu : Nat) (c : (Sl S_laws_Node) × Nat × Nat) (k : Ex → St RT den → Option ρ) (w : Int × (Nat → S_impl_Node)) (go : (Int × (Nat → S_impl_Node)) → Option ρ) : Option ρ := F_laws_toNodeS_B0 fu c.1 c.2.1 c.2.2 (fun a0 => k (.exit 0) ⟨[.dead, .dead, .dead, (.os 0 c.2.1), .dead, .dead, .dead, .dead, .dead, .dead, .dead, .dead, .dead, .dead, .dead, .dead, .dead, .dead, .dead, .dead, .dead, .dead, .dead], [(.row .impl_Node c.2.2 a0)]⟩) w.1 w.2 (fun q0 q1 => go (q0, q1))
def lp_laws_toNodeS (fu : Nat) : Lp RT den ((Sl S_impl_Node)) := fun b s k => match b with | 0 => handle ps_laws_toNodeS_0 os_laws_toNodeS_0 conv_laws_toNodeS_0 (Bk_laws_toNodeS_0 fu) fu s k | _ => none
theorem ev_laws_toNodeS (fu : Nat) (a_0 : (Sl S_laws_Node)) : evFun E (pc_laws_toNodeS fu) msk_laws_toNodeS (lp_laws_toNodeS fu) out_sl_impl_Node 28 [(.rs a_0.z .laws_Node a_0.n a_0.f)] = F_laws_toNodeS fu a_0 := by kernel_rfl
noncomputable def body_laws_toNodeS : Code := Try.f28.body.getD .skip
noncomputable def lc_laws_toNodeS_0 : Code := ((loops 0 body_laws_toNodeS).getD 0 (0, .skip)).2
theorem round_laws_toNodeS_0 (fu : Nat) (it : St RT den → Option ((Sl S_impl_Node))) (k : Ex → St RT den → Option ((Sl S_impl_Node))) c w : evCode E (pc_laws_toNodeS fu) msk_laws_toNodeS (lp_laws_toNodeS fu) 0 lc_laws_toNodeS_0 (back_laws_toNodeS_0 c w) (after (msk_laws_toNodeS 0) (msk_laws_toNodeS 100000) 1 it k) = Bk_laws_toNodeS_0 fu c k w (fun w => it (back_laws_toNodeS_0 c w)) := by kernel_rfl
theorem lpok_laws_toNodeS_0 (fu : Nat) : ∀ s k r, lp_laws_toNodeS fu 0 s k = some r → ∃ fuel, iter (msk_laws_toNodeS 0) (msk_laws_toNodeS 100000) s.objs.length (evCode E (pc_laws_toNodeS fu) msk_laws_toNodeS (lp_laws_toNodeS fu) 0 lc_laws_toNodeS_0) fuel s k = some r :=
  handle_ok (ps := ps_laws_toNodeS_0) (os := os_laws_toNodeS_0) (conv := conv_laws_toNodeS_0) (B := Bk_laws_toNodeS_0 fu) (fu := fu) back_laws_toNodeS_0 (fun raw => by kernel_rfl) 1 (fun c w => by kernel_rfl) (round_laws_toNodeS_0 fu)
theorem lpok_laws_toNodeS (fu : Nat) : LpOk E (pc_laws_toNodeS fu) msk_laws_toNodeS (lp_laws_toNodeS fu) (loops 0 body_laws_toNodeS) := loop_all 1 (by kernel_rfl) fun i hi => match i, hi with
  | 0, _ => by
    have h : (loops 0 body_laws_toNodeS).getD 0 (0, .skip) = (0, lc_laws_toNodeS_0) := by kernel_rfl
    rw [h]; exact lpok_laws_toNodeS_0 fu
  | i + 1, hi => absurd hi (by omega)
def S_laws_toNodeS (fu : Nat) (xs : List (D RT den)) : Option (Out RT den) := match xs with | [.rs za0_0 .laws_Node na0_0 fa0_0] => some ⟨(Sl S_impl_Node), F_laws_toNodeS fu (⟨za0_0, na0_0, fa0_0⟩ : (Sl S_laws_Node)), enc_sl_impl_Node, fun _ => true⟩ | _ => none
theorem hpc_laws_toNodeS (fu : Nat) : ∀ f xs o, pc_laws_toNodeS fu f xs = some o → ∀ y, o.x = some y → Good E Try.prog f xs (o.g y) := by
  intro f xs o h
  unfold pc_laws_toNodeS at h
  split at h
  · exact good_laws_toNode fu xs o h
  · cases h
theorem goodv_laws_toNodeS (fu : Nat) (a_0 : (Sl S_laws_Node)) (y : (Sl S_impl_Node)) (hy : F_laws_toNodeS fu a_0 = some y) : Good E Try.prog 28 [(.rs a_0.z .laws_Node a_0.n a_0.f)] (enc_sl_impl_Node y) :=
  fun_good E_ok (pc_good (hpc_laws_toNodeS fu)) (fn := Try.f28) (c := body_laws_toNodeS) (out := out_sl_impl_Node) (y := y) (by kernel_rfl) (by kernel_rfl) (by kernel_rfl) (lpok_laws_toNodeS fu) (fun d hd => out_sl_impl_Node_enc d _ hd) ((ev_laws_toNodeS fu a_0).trans hy)
theorem good_laws_toNodeS (fu : Nat) : ∀ xs o, S_laws_toNodeS fu xs = some o → ∀ y, o.x = some y → Good E Try.prog 28 xs (o.g y) := by
  intro xs o h y hy
  unfold S_laws_toNodeS at h
  split at h
  · rename_i za0_0 na0_0 fa0_0
    cases h
    exact goodv_laws_toNodeS fu (⟨za0_0, na0_0, fa0_0⟩ : (Sl S_laws_Node)) y hy
  · cases h

/-! laws.toMail -/
def F_laws_toMail (fu : Nat) (a_0 : S_laws_Mail) : Option (S_impl_Mail) :=
  ((F_laws_toEntryS fu a_0.Entries).bind fun y39 => (some (⟨a_0.Kind, a_0.From, a_0.To, a_0.Term, a_0.Index, a_0.Last, a_0.Commit, a_0.Ok, y39⟩ : S_impl_Mail)))
def pc_laws_toMail (fu : Nat) : Pc RT den := fun f xs => match f with | 91 => S_laws_toEntryS fu xs | _ => none
def msk_laws_toMail (b : Nat) : List Nat := []
def lp_laws_toMail (fu : Nat) : Lp RT den (S_impl_Mail) := fun b s k => none
theorem ev_laws_toMail (fu : Nat) (a_0 : S_laws_Mail) : evFun E (pc_laws_toMail fu) msk_laws_toMail (lp_laws_toMail fu) out_impl_Mail 62 [(.agg [(.int .i64 a_0.Kind), (.int .i64 a_0.From), (.int .i64 a_0.To), (.int .i64 a_0.Term), (.int .i64 a_0.Index), (.int .i64 a_0.Last), (.int .i64 a_0.Commit), (.bool a_0.Ok), (.rs a_0.Entries.z .laws_Entry a_0.Entries.n a_0.Entries.f)])] = F_laws_toMail fu a_0 := by kernel_rfl
noncomputable def body_laws_toMail : Code := Try.f62.body.getD .skip
theorem lpok_laws_toMail (fu : Nat) : LpOk E (pc_laws_toMail fu) msk_laws_toMail (lp_laws_toMail fu) (loops 0 body_laws_toMail) := by
  have h : loops 0 body_laws_toMail = [] := by kernel_rfl
  rw [h]; intro p hp; cases hp
def S_laws_toMail (fu : Nat) (xs : List (D RT den)) : Option (Out RT den) := match xs with | [.agg [.int .i64 a0_1, .int .i64 a0_2, .int .i64 a0_3, .int .i64 a0_4, .int .i64 a0_5, .int .i64 a0_6, .int .i64 a0_7, .bool a0_8, .rs za0_9 .laws_Entry na0_9 fa0_9]] => some ⟨S_impl_Mail, F_laws_toMail fu (⟨a0_1, a0_2, a0_3, a0_4, a0_5, a0_6, a0_7, a0_8, (⟨za0_9, na0_9, fa0_9⟩ : (Sl S_laws_Entry))⟩ : S_laws_Mail), enc_impl_Mail, fun _ => true⟩ | _ => none
theorem hpc_laws_toMail (fu : Nat) : ∀ f xs o, pc_laws_toMail fu f xs = some o → ∀ y, o.x = some y → Good E Try.prog f xs (o.g y) := by
  intro f xs o h
  unfold pc_laws_toMail at h
  split at h
  · exact good_laws_toEntryS fu xs o h
  · cases h
theorem goodv_laws_toMail (fu : Nat) (a_0 : S_laws_Mail) (y : S_impl_Mail) (hy : F_laws_toMail fu a_0 = some y) : Good E Try.prog 62 [(.agg [(.int .i64 a_0.Kind), (.int .i64 a_0.From), (.int .i64 a_0.To), (.int .i64 a_0.Term), (.int .i64 a_0.Index), (.int .i64 a_0.Last), (.int .i64 a_0.Commit), (.bool a_0.Ok), (.rs a_0.Entries.z .laws_Entry a_0.Entries.n a_0.Entries.f)])] (enc_impl_Mail y) :=
  fun_good E_ok (pc_good (hpc_laws_toMail fu)) (fn := Try.f62) (c := body_laws_toMail) (out := out_impl_Mail) (y := y) (by kernel_rfl) (by kernel_rfl) (by kernel_rfl) (lpok_laws_toMail fu) (fun d hd => out_impl_Mail_enc d _ hd) ((ev_laws_toMail fu a_0).trans hy)
theorem good_laws_toMail (fu : Nat) : ∀ xs o, S_laws_toMail fu xs = some o → ∀ y, o.x = some y → Good E Try.prog 62 xs (o.g y) := by
  intro xs o h y hy
  unfold S_laws_toMail at h
  split at h
  · rename_i a0_1 a0_2 a0_3 a0_4 a0_5 a0_6 a0_7 a0_8 za0_9 na0_9 fa0_9
    cases h
    exact goodv_laws_toMail fu (⟨a0_1, a0_2, a0_3, a0_4, a0_5, a0_6, a0_7, a0_8, (⟨za0_9, na0_9, fa0_9⟩ : (Sl S_laws_Entry))⟩ : S_laws_Mail) y hy
  · cases h

/-! laws.toMailS -/
def F_laws_toMailS_B0 {ρ : Type} (fu : Nat) (a0_0 : (Sl S_laws_Mail)) (out3_1 : Nat) (on0_3 : Nat) (k0 : (Nat → S_impl_Mail) → Option ρ) (i4_2 : Int) (of0_4 : (Nat → S_impl_Mail)) (go : Int → (Nat → S_impl_Mail) → Option ρ) : Option ρ :=
  (bif (decide (i4_2 < ((a0_0.n : Nat) : Int))) then ((bif (decide (0 ≤ i4_2) && decide ((Int.toNat i4_2) < a0_0.n)) then some () else none : Option Unit).bind fun _ =>
    ((F_laws_toMail fu (a0_0.f (Int.toNat i4_2))).bind fun y37 => ((bif (decide (0 ≤ i4_2) && decide ((Int.toNat i4_2) < out3_1)) then some () else none : Option Unit).bind fun _ =>
    (go (IntKind.wrap .i64 (i4_2 + 1)) (fun j => if j = (Int.toNat i4_2) then y37 else of0_4 j))))) else (k0 of0_4))
def F_laws_toMailS (fu : Nat) (a_0 : (Sl S_laws_Mail)) : Option ((Sl S_impl_Mail)) :=
  (bif (decide (0 ≤ ((a_0.n : Nat) : Int)) && (decide (((a_0.n : Nat) : Int) = ((a_0.n : Nat) : Int)) && (decide ((88 : Int) * ((a_0.n : Nat) : Int) ≤ 281474976710656) && decide (((a_0.n : Nat) : Int) ≤ 9223372036854775807)))) then
    (L (fun w0 go0 => F_laws_toMailS_B0 fu a_0 (Int.toNat ((a_0.n : Nat) : Int)) (Int.toNat ((a_0.n : Nat) : Int)) (fun z38 => (some (⟨none, (Int.toNat ((a_0.n : Nat) : Int)), z38⟩ : (Sl S_impl_Mail)))) w0.1 w0.2 (fun q0 q1 =>
    go0 (q0, q1))) fu ((0, (fun _ => (⟨0, 0, 0, 0, 0, 0, 0, false, (⟨(some true), 0, (fun _ => dflt .impl_Entry)⟩ : (Sl S_impl_Entry))⟩ : S_impl_Mail))) : Int × (Nat → S_impl_Mail))) else
    none)
def pc_laws_toMailS (fu : Nat) : Pc RT den := fun f xs => match f with | 62 => S_laws_toMail fu xs | _ => none
def msk_laws_toMailS (b : Nat) : List Nat := match b with | 0 => [1, 2, 5, 6, 7, 8, 9, 10, 11, 12, 13, 14, 15, 16, 17, 18, 19, 20, 21, 22] | 100000 => [0, 1, 4, 5, 6, 7, 8, 9, 10, 11, 12, 13, 14, 15, 16, 17, 18, 19, 20, 21, 22] | _ => []
def ps_laws_toMailS_0 : List (Pat RT) := [.flat (.rs .laws_Mail), .flat .dead, .flat .dead, .flat (.os 0), .flat (.int .i64), .flat .dead, .flat .dead, .flat .dead, .flat .dead, .flat .dead, .flat .dead, .flat .dead, .flat .dead, .flat .dead, .flat .dead, .flat .dead, .flat .dead, .flat .dead, .flat .dead, .flat .dead, .flat .dead, .flat .dead, .flat .dead]
def os_laws_toMailS_0 : List (OP RT) := [.row .impl_Mail]
def conv_laws_toMailS_0 (r : Raw den ps_laws_toMailS_0 os_laws_toMailS_0) : ((Sl S_laws_Mail) × Nat × Nat) × (Int × (Nat → S_impl_Mail)) := ((r.1.1, r.1.2.2.2.1, r.2.1.1), (r.1.2.2.2.2.1, r.2.1.2))
def back_laws_toMailS_0 (c : (Sl S_laws_Mail) × Nat × Nat) (w : Int × (Nat → S_impl_Mail)) : St RT den := ⟨[(.rs c.1.z .laws_Mail c.1.n c.1.f), .dead, .dead, (.os 0 c.2.1), (.int .i64 w.1), .dead, .dead, .dead, .dead, .dead, .dead, .dead, .dead, .dead, .dead, .dead, .dead, .dead, .dead, .dead, .dead, .dead, .dead], [(.row .impl_Mail c.2.2 w.2)]⟩
def Bk_laws_toMailS_0 {ρ : Type} (fu : Nat) (c : (Sl S_laws_Mail) × Nat × Nat) (k : Ex → St RT den → Option ρ) (w : Int × (Nat → S_impl_Mail)) (go : (Int × (Nat → S_impl_Mail)) → Option ρ) : Option ρ := F_laws_toMailS_B0 fu c.1 c.2.1 c.2.2 (fun a0 => k (.exit 0) ⟨[.dead, .dead, .dead, (.os 0 c.2.1), .dead, .dead, .dead, .dead, .dead, .dead, .dead, .dead, .dead, .dead, .dead, .dead, .dead, .dead, .dead, .dead, .dead, .dead, .dead], [(.row .impl_Mail c.2.2 a0)]⟩) w.1 w.2 (fun q0 q1 => go (q0, q1))
def lp_laws_toMailS (fu : Nat) : Lp RT den ((Sl S_impl_Mail)) := fun b s k => match b with | 0 => handle ps_laws_toMailS_0 os_laws_toMailS_0 conv_laws_toMailS_0 (Bk_laws_toMailS_0 fu) fu s k | _ => none
theorem ev_laws_toMailS (fu : Nat) (a_0 : (Sl S_laws_Mail)) : evFun E (pc_laws_toMailS fu) msk_laws_toMailS (lp_laws_toMailS fu) out_sl_impl_Mail 29 [(.rs a_0.z .laws_Mail a_0.n a_0.f)] = F_laws_toMailS fu a_0 := by kernel_rfl
noncomputable def body_laws_toMailS : Code := Try.f29.body.getD .skip
noncomputable def lc_laws_toMailS_0 : Code := ((loops 0 body_laws_toMailS).getD 0 (0, .skip)).2
theorem round_laws_toMailS_0 (fu : Nat) (it : St RT den → Option ((Sl S_impl_Mail))) (k : Ex → St RT den → Option ((Sl S_impl_Mail))) c w : evCode E (pc_laws_toMailS fu) msk_laws_toMailS (lp_laws_toMailS fu) 0 lc_laws_toMailS_0 (back_laws_toMailS_0 c w) (after (msk_laws_toMailS 0) (msk_laws_toMailS 100000) 1 it k) = Bk_laws_toMailS_0 fu c k w (fun w => it (back_laws_toMailS_0 c w)) := by kernel_rfl
theorem lpok_laws_toMailS_0 (fu : Nat) : ∀ s k r, lp_laws_toMailS fu 0 s k = some r → ∃ fuel, iter (msk_laws_toMailS 0) (msk_laws_toMailS 100000) s.objs.length (evCode E (pc_laws_toMailS fu) msk_laws_toMailS (lp_laws_toMailS fu) 0 lc_laws_toMailS_0) fuel s k = some r :=
  handle_ok (ps := ps_laws_toMailS_0) (os := os_laws_toMailS_0) (conv := conv_laws_toMailS_0) (B := Bk_laws_toMailS_0 fu) (fu := fu) back_laws_toMailS_0 (fun raw => by kernel_rfl) 1 (fun c w => by kernel_rfl) (round_laws_toMailS_0 fu)
theorem lpok_laws_toMailS (fu : Nat) : LpOk E (pc_laws_toMailS fu) msk_laws_toMailS (lp_laws_toMailS fu) (loops 0 body_laws_toMailS) := loop_all 1 (by kernel_rfl) fun i hi => match i, hi with
  | 0, _ => by
    have h : (loops 0 body_laws_toMailS).getD 0 (0, .skip) = (0, lc_laws_toMailS_0) := by kernel_rfl
    rw [h]; exact lpok_laws_toMailS_0 fu
  | i + 1, hi => absurd hi (by omega)
def S_laws_toMailS (fu : Nat) (xs : List (D RT den)) : Option (Out RT den) := match xs with | [.rs za0_0 .laws_Mail na0_0 fa0_0] => some ⟨(Sl S_impl_Mail), F_laws_toMailS fu (⟨za0_0, na0_0, fa0_0⟩ : (Sl S_laws_Mail)), enc_sl_impl_Mail, fun _ => true⟩ | _ => none
theorem hpc_laws_toMailS (fu : Nat) : ∀ f xs o, pc_laws_toMailS fu f xs = some o → ∀ y, o.x = some y → Good E Try.prog f xs (o.g y) := by
  intro f xs o h
  unfold pc_laws_toMailS at h
  split at h
  · exact good_laws_toMail fu xs o h
  · cases h
theorem goodv_laws_toMailS (fu : Nat) (a_0 : (Sl S_laws_Mail)) (y : (Sl S_impl_Mail)) (hy : F_laws_toMailS fu a_0 = some y) : Good E Try.prog 29 [(.rs a_0.z .laws_Mail a_0.n a_0.f)] (enc_sl_impl_Mail y) :=
  fun_good E_ok (pc_good (hpc_laws_toMailS fu)) (fn := Try.f29) (c := body_laws_toMailS) (out := out_sl_impl_Mail) (y := y) (by kernel_rfl) (by kernel_rfl) (by kernel_rfl) (lpok_laws_toMailS fu) (fun d hd => out_sl_impl_Mail_enc d _ hd) ((ev_laws_toMailS fu a_0).trans hy)
theorem good_laws_toMailS (fu : Nat) : ∀ xs o, S_laws_toMailS fu xs = some o → ∀ y, o.x = some y → Good E Try.prog 29 xs (o.g y) := by
  intro xs o h y hy
  unfold S_laws_toMailS at h
  split at h
  · rename_i za0_0 na0_0 fa0_0
    cases h
    exact goodv_laws_toMailS fu (⟨za0_0, na0_0, fa0_0⟩ : (Sl S_laws_Mail)) y hy
  · cases h

/-! laws.toWon -/
def F_laws_toWon (fu : Nat) (a_0 : S_impl_Won) : Option (S_impl_Won) :=
  (some a_0)
def pc_laws_toWon (fu : Nat) : Pc RT den := fun f xs => none
def msk_laws_toWon (b : Nat) : List Nat := []
def lp_laws_toWon (fu : Nat) : Lp RT den (S_impl_Won) := fun b s k => none
theorem ev_laws_toWon (fu : Nat) (a_0 : S_impl_Won) : evFun E (pc_laws_toWon fu) msk_laws_toWon (lp_laws_toWon fu) out_impl_Won 63 [(.agg [(.int .i64 a_0.Term), (.int .i64 a_0.Node)])] = F_laws_toWon fu a_0 := by kernel_rfl
noncomputable def body_laws_toWon : Code := Try.f63.body.getD .skip
theorem lpok_laws_toWon (fu : Nat) : LpOk E (pc_laws_toWon fu) msk_laws_toWon (lp_laws_toWon fu) (loops 0 body_laws_toWon) := by
  have h : loops 0 body_laws_toWon = [] := by kernel_rfl
  rw [h]; intro p hp; cases hp
def S_laws_toWon (fu : Nat) (xs : List (D RT den)) : Option (Out RT den) := match xs with | [.agg [.int .i64 a0_1, .int .i64 a0_2]] => some ⟨S_impl_Won, F_laws_toWon fu (⟨a0_1, a0_2⟩ : S_impl_Won), enc_impl_Won, fun _ => true⟩ | _ => none
theorem hpc_laws_toWon (fu : Nat) : ∀ f xs o, pc_laws_toWon fu f xs = some o → ∀ y, o.x = some y → Good E Try.prog f xs (o.g y) := by
  intro f xs o h
  cases h
theorem goodv_laws_toWon (fu : Nat) (a_0 : S_impl_Won) (y : S_impl_Won) (hy : F_laws_toWon fu a_0 = some y) : Good E Try.prog 63 [(.agg [(.int .i64 a_0.Term), (.int .i64 a_0.Node)])] (enc_impl_Won y) :=
  fun_good E_ok (pc_good (hpc_laws_toWon fu)) (fn := Try.f63) (c := body_laws_toWon) (out := out_impl_Won) (y := y) (by kernel_rfl) (by kernel_rfl) (by kernel_rfl) (lpok_laws_toWon fu) (fun d hd => out_impl_Won_enc d _ hd) ((ev_laws_toWon fu a_0).trans hy)
theorem good_laws_toWon (fu : Nat) : ∀ xs o, S_laws_toWon fu xs = some o → ∀ y, o.x = some y → Good E Try.prog 63 xs (o.g y) := by
  intro xs o h y hy
  unfold S_laws_toWon at h
  split at h
  · rename_i a0_1 a0_2
    cases h
    exact goodv_laws_toWon fu (⟨a0_1, a0_2⟩ : S_impl_Won) y hy
  · cases h

/-! laws.toWonS -/
def F_laws_toWonS_B0 {ρ : Type} (fu : Nat) (a0_0 : (Sl S_impl_Won)) (out3_1 : Nat) (on0_3 : Nat) (k0 : (Nat → S_impl_Won) → Option ρ) (i4_2 : Int) (of0_4 : (Nat → S_impl_Won)) (go : Int → (Nat → S_impl_Won) → Option ρ) : Option ρ :=
  (bif (decide (i4_2 < ((a0_0.n : Nat) : Int))) then ((bif (decide (0 ≤ i4_2) && decide ((Int.toNat i4_2) < a0_0.n)) then some () else none : Option Unit).bind fun _ =>
    ((F_laws_toWon fu (a0_0.f (Int.toNat i4_2))).bind fun y40 => ((bif (decide (0 ≤ i4_2) && decide ((Int.toNat i4_2) < out3_1)) then some () else none : Option Unit).bind fun _ =>
    (go (IntKind.wrap .i64 (i4_2 + 1)) (fun j => if j = (Int.toNat i4_2) then y40 else of0_4 j))))) else (k0 of0_4))
def F_laws_toWonS (fu : Nat) (a_0 : (Sl S_impl_Won)) : Option ((Sl S_impl_Won)) :=
  (bif (decide (0 ≤ ((a_0.n : Nat) : Int)) && (decide (((a_0.n : Nat) : Int) = ((a_0.n : Nat) : Int)) && (decide ((16 : Int) * ((a_0.n : Nat) : Int) ≤ 281474976710656) && decide (((a_0.n : Nat) : Int) ≤ 9223372036854775807)))) then
    (L (fun w0 go0 => F_laws_toWonS_B0 fu a_0 (Int.toNat ((a_0.n : Nat) : Int)) (Int.toNat ((a_0.n : Nat) : Int)) (fun z41 => (some (⟨none, (Int.toNat ((a_0.n : Nat) : Int)), z41⟩ : (Sl S_impl_Won)))) w0.1 w0.2 (fun q0 q1 =>
    go0 (q0, q1))) fu ((0, (fun _ => (⟨0, 0⟩ : S_impl_Won))) : Int × (Nat → S_impl_Won))) else none)
def pc_laws_toWonS (fu : Nat) : Pc RT den := fun f xs => match f with | 63 => S_laws_toWon fu xs | _ => none
def msk_laws_toWonS (b : Nat) : List Nat := match b with | 0 => [1, 2, 5, 6, 7, 8, 9, 10, 11, 12, 13, 14, 15, 16, 17, 18, 19, 20, 21, 22] | 100000 => [0, 1, 4, 5, 6, 7, 8, 9, 10, 11, 12, 13, 14, 15, 16, 17, 18, 19, 20, 21, 22] | _ => []
def ps_laws_toWonS_0 : List (Pat RT) := [.flat (.rs .impl_Won), .flat .dead, .flat .dead, .flat (.os 0), .flat (.int .i64), .flat .dead, .flat .dead, .flat .dead, .flat .dead, .flat .dead, .flat .dead, .flat .dead, .flat .dead, .flat .dead, .flat .dead, .flat .dead, .flat .dead, .flat .dead, .flat .dead, .flat .dead, .flat .dead, .flat .dead, .flat .dead]
def os_laws_toWonS_0 : List (OP RT) := [.row .impl_Won]
def conv_laws_toWonS_0 (r : Raw den ps_laws_toWonS_0 os_laws_toWonS_0) : ((Sl S_impl_Won) × Nat × Nat) × (Int × (Nat → S_impl_Won)) := ((r.1.1, r.1.2.2.2.1, r.2.1.1), (r.1.2.2.2.2.1, r.2.1.2))
def back_laws_toWonS_0 (c : (Sl S_impl_Won) × Nat × Nat) (w : Int × (Nat → S_impl_Won)) : St RT den := ⟨[(.rs c.1.z .impl_Won c.1.n c.1.f), .dead, .dead, (.os 0 c.2.1), (.int .i64 w.1), .dead, .dead, .dead, .dead, .dead, .dead, .dead, .dead, .dead, .dead, .dead, .dead, .dead, .dead, .dead, .dead, .dead, .dead], [(.row .impl_Won c.2.2 w.2)]⟩
def Bk_laws_toWonS_0 {ρ : Type} (fu : Nat) (c : (Sl S_impl_Won) × Nat × Nat) (k : Ex → St RT den → Option ρ) (w : Int × (Nat → S_impl_Won)) (go : (Int × (Nat → S_impl_Won)) → Option ρ) : Option ρ := F_laws_toWonS_B0 fu c.1 c.2.1 c.2.2 (fun a0 => k (.exit 0) ⟨[.dead, .dead, .dead, (.os 0 c.2.1), .dead, .dead, .dead, .dead, .dead, .dead, .dead, .dead, .dead, .dead, .dead, .dead, .dead, .dead, .dead, .dead, .dead, .dead, .dead], [(.row .impl_Won c.2.2 a0)]⟩) w.1 w.2 (fun q0 q1 => go (q0, q1))
def lp_laws_toWonS (fu : Nat) : Lp RT den ((Sl S_impl_Won)) := fun b s k => match b with | 0 => handle ps_laws_toWonS_0 os_laws_toWonS_0 conv_laws_toWonS_0 (Bk_laws_toWonS_0 fu) fu s k | _ => none
theorem ev_laws_toWonS (fu : Nat) (a_0 : (Sl S_impl_Won)) : evFun E (pc_laws_toWonS fu) msk_laws_toWonS (lp_laws_toWonS fu) out_sl_impl_Won 30 [(.rs a_0.z .impl_Won a_0.n a_0.f)] = F_laws_toWonS fu a_0 := by kernel_rfl
noncomputable def body_laws_toWonS : Code := Try.f30.body.getD .skip
noncomputable def lc_laws_toWonS_0 : Code := ((loops 0 body_laws_toWonS).getD 0 (0, .skip)).2
theorem round_laws_toWonS_0 (fu : Nat) (it : St RT den → Option ((Sl S_impl_Won))) (k : Ex → St RT den → Option ((Sl S_impl_Won))) c w : evCode E (pc_laws_toWonS fu) msk_laws_toWonS (lp_laws_toWonS fu) 0 lc_laws_toWonS_0 (back_laws_toWonS_0 c w) (after (msk_laws_toWonS 0) (msk_laws_toWonS 100000) 1 it k) = Bk_laws_toWonS_0 fu c k w (fun w => it (back_laws_toWonS_0 c w)) := by kernel_rfl
theorem lpok_laws_toWonS_0 (fu : Nat) : ∀ s k r, lp_laws_toWonS fu 0 s k = some r → ∃ fuel, iter (msk_laws_toWonS 0) (msk_laws_toWonS 100000) s.objs.length (evCode E (pc_laws_toWonS fu) msk_laws_toWonS (lp_laws_toWonS fu) 0 lc_laws_toWonS_0) fuel s k = some r :=
  handle_ok (ps := ps_laws_toWonS_0) (os := os_laws_toWonS_0) (conv := conv_laws_toWonS_0) (B := Bk_laws_toWonS_0 fu) (fu := fu) back_laws_toWonS_0 (fun raw => by kernel_rfl) 1 (fun c w => by kernel_rfl) (round_laws_toWonS_0 fu)
theorem lpok_laws_toWonS (fu : Nat) : LpOk E (pc_laws_toWonS fu) msk_laws_toWonS (lp_laws_toWonS fu) (loops 0 body_laws_toWonS) := loop_all 1 (by kernel_rfl) fun i hi => match i, hi with
  | 0, _ => by
    have h : (loops 0 body_laws_toWonS).getD 0 (0, .skip) = (0, lc_laws_toWonS_0) := by kernel_rfl
    rw [h]; exact lpok_laws_toWonS_0 fu
  | i + 1, hi => absurd hi (by omega)
def S_laws_toWonS (fu : Nat) (xs : List (D RT den)) : Option (Out RT den) := match xs with | [.rs za0_0 .impl_Won na0_0 fa0_0] => some ⟨(Sl S_impl_Won), F_laws_toWonS fu (⟨za0_0, na0_0, fa0_0⟩ : (Sl S_impl_Won)), enc_sl_impl_Won, fun _ => true⟩ | _ => none
theorem hpc_laws_toWonS (fu : Nat) : ∀ f xs o, pc_laws_toWonS fu f xs = some o → ∀ y, o.x = some y → Good E Try.prog f xs (o.g y) := by
  intro f xs o h
  unfold pc_laws_toWonS at h
  split at h
  · exact good_laws_toWon fu xs o h
  · cases h
theorem goodv_laws_toWonS (fu : Nat) (a_0 : (Sl S_impl_Won)) (y : (Sl S_impl_Won)) (hy : F_laws_toWonS fu a_0 = some y) : Good E Try.prog 30 [(.rs a_0.z .impl_Won a_0.n a_0.f)] (enc_sl_impl_Won y) :=
  fun_good E_ok (pc_good (hpc_laws_toWonS fu)) (fn := Try.f30) (c := body_laws_toWonS) (out := out_sl_impl_Won) (y := y) (by kernel_rfl) (by kernel_rfl) (by kernel_rfl) (lpok_laws_toWonS fu) (fun d hd => out_sl_impl_Won_enc d _ hd) ((ev_laws_toWonS fu a_0).trans hy)
theorem good_laws_toWonS (fu : Nat) : ∀ xs o, S_laws_toWonS fu xs = some o → ∀ y, o.x = some y → Good E Try.prog 30 xs (o.g y) := by
  intro xs o h y hy
  unfold S_laws_toWonS at h
  split at h
  · rename_i za0_0 na0_0 fa0_0
    cases h
    exact goodv_laws_toWonS fu (⟨za0_0, na0_0, fa0_0⟩ : (Sl S_impl_Won)) y hy
  · cases h

/-! laws.toSeal -/
def F_laws_toSeal (fu : Nat) (a_0 : S_laws_Seal) : Option (S_impl_Seal) :=
  ((F_laws_toEntry fu a_0.Entry).bind fun y44 => (some (⟨a_0.Term, y44⟩ : S_impl_Seal)))
def pc_laws_toSeal (fu : Nat) : Pc RT den := fun f xs => match f with | 93 => S_laws_toEntry fu xs | _ => none
def msk_laws_toSeal (b : Nat) : List Nat := []
def lp_laws_toSeal (fu : Nat) : Lp RT den (S_impl_Seal) := fun b s k => none
theorem ev_laws_toSeal (fu : Nat) (a_0 : S_laws_Seal) : evFun E (pc_laws_toSeal fu) msk_laws_toSeal (lp_laws_toSeal fu) out_impl_Seal 64 [(.agg [(.int .i64 a_0.Term), (.int .i64 a_0.Entry.Term), (.int .i64 a_0.Entry.Client), (.int .i64 a_0.Entry.Seq), (.int .i64 a_0.Entry.Cmd.Kind), (.int .i64 a_0.Entry.Cmd.Expect), (.int .i64 a_0.Entry.Cmd.Name), (.int .i64 a_0.Entry.Cmd.Addr), (.int .i64 a_0.Entry.Cmd.Number), (.int .i64 a_0.Entry.Cmd.Proto)])] = F_laws_toSeal fu a_0 := by kernel_rfl
noncomputable def body_laws_toSeal : Code := Try.f64.body.getD .skip
theorem lpok_laws_toSeal (fu : Nat) : LpOk E (pc_laws_toSeal fu) msk_laws_toSeal (lp_laws_toSeal fu) (loops 0 body_laws_toSeal) := by
  have h : loops 0 body_laws_toSeal = [] := by kernel_rfl
  rw [h]; intro p hp; cases hp
def S_laws_toSeal (fu : Nat) (xs : List (D RT den)) : Option (Out RT den) := match xs with | [.agg [.int .i64 a0_1, .int .i64 a0_3, .int .i64 a0_4, .int .i64 a0_5, .int .i64 a0_7, .int .i64 a0_8, .int .i64 a0_9, .int .i64 a0_10, .int .i64 a0_11, .int .i64 a0_12]] => some ⟨S_impl_Seal, F_laws_toSeal fu (⟨a0_1, (⟨a0_3, a0_4, a0_5, (⟨a0_7, a0_8, a0_9, a0_10, a0_11, a0_12⟩ : S_impl_Cmd)⟩ : S_laws_Entry)⟩ : S_laws_Seal), enc_impl_Seal, fun _ => true⟩ | _ => none
theorem hpc_laws_toSeal (fu : Nat) : ∀ f xs o, pc_laws_toSeal fu f xs = some o → ∀ y, o.x = some y → Good E Try.prog f xs (o.g y) := by
  intro f xs o h
  unfold pc_laws_toSeal at h
  split at h
  · exact good_laws_toEntry fu xs o h
  · cases h
theorem goodv_laws_toSeal (fu : Nat) (a_0 : S_laws_Seal) (y : S_impl_Seal) (hy : F_laws_toSeal fu a_0 = some y) : Good E Try.prog 64 [(.agg [(.int .i64 a_0.Term), (.int .i64 a_0.Entry.Term), (.int .i64 a_0.Entry.Client), (.int .i64 a_0.Entry.Seq), (.int .i64 a_0.Entry.Cmd.Kind), (.int .i64 a_0.Entry.Cmd.Expect), (.int .i64 a_0.Entry.Cmd.Name), (.int .i64 a_0.Entry.Cmd.Addr), (.int .i64 a_0.Entry.Cmd.Number), (.int .i64 a_0.Entry.Cmd.Proto)])] (enc_impl_Seal y) :=
  fun_good E_ok (pc_good (hpc_laws_toSeal fu)) (fn := Try.f64) (c := body_laws_toSeal) (out := out_impl_Seal) (y := y) (by kernel_rfl) (by kernel_rfl) (by kernel_rfl) (lpok_laws_toSeal fu) (fun d hd => out_impl_Seal_enc d _ hd) ((ev_laws_toSeal fu a_0).trans hy)
theorem good_laws_toSeal (fu : Nat) : ∀ xs o, S_laws_toSeal fu xs = some o → ∀ y, o.x = some y → Good E Try.prog 64 xs (o.g y) := by
  intro xs o h y hy
  unfold S_laws_toSeal at h
  split at h
  · rename_i a0_1 a0_3 a0_4 a0_5 a0_7 a0_8 a0_9 a0_10 a0_11 a0_12
    cases h
    exact goodv_laws_toSeal fu (⟨a0_1, (⟨a0_3, a0_4, a0_5, (⟨a0_7, a0_8, a0_9, a0_10, a0_11, a0_12⟩ : S_impl_Cmd)⟩ : S_laws_Entry)⟩ : S_laws_Seal) y hy
  · cases h

/-! laws.toSealS -/
def F_laws_toSealS_B0 {ρ : Type} (fu : Nat) (a0_0 : (Sl S_laws_Seal)) (out3_1 : Nat) (on0_3 : Nat) (k0 : (Nat → S_impl_Seal) → Option ρ) (i4_2 : Int) (of0_4 : (Nat → S_impl_Seal)) (go : Int → (Nat → S_impl_Seal) → Option ρ) : Option ρ :=
  (bif (decide (i4_2 < ((a0_0.n : Nat) : Int))) then ((bif (decide (0 ≤ i4_2) && decide ((Int.toNat i4_2) < a0_0.n)) then some () else none : Option Unit).bind fun _ =>
    ((F_laws_toSeal fu (a0_0.f (Int.toNat i4_2))).bind fun y42 => ((bif (decide (0 ≤ i4_2) && decide ((Int.toNat i4_2) < out3_1)) then some () else none : Option Unit).bind fun _ =>
    (go (IntKind.wrap .i64 (i4_2 + 1)) (fun j => if j = (Int.toNat i4_2) then y42 else of0_4 j))))) else (k0 of0_4))
def F_laws_toSealS (fu : Nat) (a_0 : (Sl S_laws_Seal)) : Option ((Sl S_impl_Seal)) :=
  (bif (decide (0 ≤ ((a_0.n : Nat) : Int)) && (decide (((a_0.n : Nat) : Int) = ((a_0.n : Nat) : Int)) && (decide ((80 : Int) * ((a_0.n : Nat) : Int) ≤ 281474976710656) && decide (((a_0.n : Nat) : Int) ≤ 9223372036854775807)))) then
    (L (fun w0 go0 => F_laws_toSealS_B0 fu a_0 (Int.toNat ((a_0.n : Nat) : Int)) (Int.toNat ((a_0.n : Nat) : Int)) (fun z43 => (some (⟨none, (Int.toNat ((a_0.n : Nat) : Int)), z43⟩ : (Sl S_impl_Seal)))) w0.1 w0.2 (fun q0 q1 =>
    go0 (q0, q1))) fu ((0, (fun _ => (⟨0, (⟨0, 0, 0, (⟨0, 0, 0, 0, 0, 0⟩ : S_impl_Cmd)⟩ : S_impl_Entry)⟩ : S_impl_Seal))) : Int × (Nat → S_impl_Seal))) else none)
def pc_laws_toSealS (fu : Nat) : Pc RT den := fun f xs => match f with | 64 => S_laws_toSeal fu xs | _ => none
def msk_laws_toSealS (b : Nat) : List Nat := match b with | 0 => [1, 2, 5, 6, 7, 8, 9, 10, 11, 12, 13, 14, 15, 16, 17, 18, 19, 20, 21, 22] | 100000 => [0, 1, 4, 5, 6, 7, 8, 9, 10, 11, 12, 13, 14, 15, 16, 17, 18, 19, 20, 21, 22] | _ => []
def ps_laws_toSealS_0 : List (Pat RT) := [.flat (.rs .laws_Seal), .flat .dead, .flat .dead, .flat (.os 0), .flat (.int .i64), .flat .dead, .flat .dead, .flat .dead, .flat .dead, .flat .dead, .flat .dead, .flat .dead, .flat .dead, .flat .dead, .flat .dead, .flat .dead, .flat .dead, .flat .dead, .flat .dead, .flat .dead, .flat .dead, .flat .dead, .flat .dead]
def os_laws_toSealS_0 : List (OP RT) := [.row .impl_Seal]
def conv_laws_toSealS_0 (r : Raw den ps_laws_toSealS_0 os_laws_toSealS_0) : ((Sl S_laws_Seal) × Nat × Nat) × (Int × (Nat → S_impl_Seal)) := ((r.1.1, r.1.2.2.2.1, r.2.1.1), (r.1.2.2.2.2.1, r.2.1.2))
def back_laws_toSealS_0 (c : (Sl S_laws_Seal) × Nat × Nat) (w : Int × (Nat → S_impl_Seal)) : St RT den := ⟨[(.rs c.1.z .laws_Seal c.1.n c.1.f), .dead, .dead, (.os 0 c.2.1), (.int .i64 w.1), .dead, .dead, .dead, .dead, .dead, .dead, .dead, .dead, .dead, .dead, .dead, .dead, .dead, .dead, .dead, .dead, .dead, .dead], [(.row .impl_Seal c.2.2 w.2)]⟩
def Bk_laws_toSealS_0 {ρ : Type} (fu : Nat) (c : (Sl S_laws_Seal) × Nat × Nat) (k : Ex → St RT den → Option ρ) (w : Int × (Nat → S_impl_Seal)) (go : (Int × (Nat → S_impl_Seal)) → Option ρ) : Option ρ := F_laws_toSealS_B0 fu c.1 c.2.1 c.2.2 (fun a0 => k (.exit 0) ⟨[.dead, .dead, .dead, (.os 0 c.2.1), .dead, .dead, .dead, .dead, .dead, .dead, .dead, .dead, .dead, .dead, .dead, .dead, .dead, .dead, .dead, .dead, .dead, .dead, .dead], [(.row .impl_Seal c.2.2 a0)]⟩) w.1 w.2 (fun q0 q1 => go (q0, q1))
def lp_laws_toSealS (fu : Nat) : Lp RT den ((Sl S_impl_Seal)) := fun b s k => match b with | 0 => handle ps_laws_toSealS_0 os_laws_toSealS_0 conv_laws_toSealS_0 (Bk_laws_toSealS_0 fu) fu s k | _ => none
theorem ev_laws_toSealS (fu : Nat) (a_0 : (Sl S_laws_Seal)) : evFun E (pc_laws_toSealS fu) msk_laws_toSealS (lp_laws_toSealS fu) out_sl_impl_Seal 31 [(.rs a_0.z .laws_Seal a_0.n a_0.f)] = F_laws_toSealS fu a_0 := by kernel_rfl
noncomputable def body_laws_toSealS : Code := Try.f31.body.getD .skip
noncomputable def lc_laws_toSealS_0 : Code := ((loops 0 body_laws_toSealS).getD 0 (0, .skip)).2
theorem round_laws_toSealS_0 (fu : Nat) (it : St RT den → Option ((Sl S_impl_Seal))) (k : Ex → St RT den → Option ((Sl S_impl_Seal))) c w : evCode E (pc_laws_toSealS fu) msk_laws_toSealS (lp_laws_toSealS fu) 0 lc_laws_toSealS_0 (back_laws_toSealS_0 c w) (after (msk_laws_toSealS 0) (msk_laws_toSealS 100000) 1 it k) = Bk_laws_toSealS_0 fu c k w (fun w => it (back_laws_toSealS_0 c w)) := by kernel_rfl
theorem lpok_laws_toSealS_0 (fu : Nat) : ∀ s k r, lp_laws_toSealS fu 0 s k = some r → ∃ fuel, iter (msk_laws_toSealS 0) (msk_laws_toSealS 100000) s.objs.length (evCode E (pc_laws_toSealS fu) msk_laws_toSealS (lp_laws_toSealS fu) 0 lc_laws_toSealS_0) fuel s k = some r :=
  handle_ok (ps := ps_laws_toSealS_0) (os := os_laws_toSealS_0) (conv := conv_laws_toSealS_0) (B := Bk_laws_toSealS_0 fu) (fu := fu) back_laws_toSealS_0 (fun raw => by kernel_rfl) 1 (fun c w => by kernel_rfl) (round_laws_toSealS_0 fu)
theorem lpok_laws_toSealS (fu : Nat) : LpOk E (pc_laws_toSealS fu) msk_laws_toSealS (lp_laws_toSealS fu) (loops 0 body_laws_toSealS) := loop_all 1 (by kernel_rfl) fun i hi => match i, hi with
  | 0, _ => by
    have h : (loops 0 body_laws_toSealS).getD 0 (0, .skip) = (0, lc_laws_toSealS_0) := by kernel_rfl
    rw [h]; exact lpok_laws_toSealS_0 fu
  | i + 1, hi => absurd hi (by omega)
def S_laws_toSealS (fu : Nat) (xs : List (D RT den)) : Option (Out RT den) := match xs with | [.rs za0_0 .laws_Seal na0_0 fa0_0] => some ⟨(Sl S_impl_Seal), F_laws_toSealS fu (⟨za0_0, na0_0, fa0_0⟩ : (Sl S_laws_Seal)), enc_sl_impl_Seal, fun _ => true⟩ | _ => none
theorem hpc_laws_toSealS (fu : Nat) : ∀ f xs o, pc_laws_toSealS fu f xs = some o → ∀ y, o.x = some y → Good E Try.prog f xs (o.g y) := by
  intro f xs o h
  unfold pc_laws_toSealS at h
  split at h
  · exact good_laws_toSeal fu xs o h
  · cases h
theorem goodv_laws_toSealS (fu : Nat) (a_0 : (Sl S_laws_Seal)) (y : (Sl S_impl_Seal)) (hy : F_laws_toSealS fu a_0 = some y) : Good E Try.prog 31 [(.rs a_0.z .laws_Seal a_0.n a_0.f)] (enc_sl_impl_Seal y) :=
  fun_good E_ok (pc_good (hpc_laws_toSealS fu)) (fn := Try.f31) (c := body_laws_toSealS) (out := out_sl_impl_Seal) (y := y) (by kernel_rfl) (by kernel_rfl) (by kernel_rfl) (lpok_laws_toSealS fu) (fun d hd => out_sl_impl_Seal_enc d _ hd) ((ev_laws_toSealS fu a_0).trans hy)
theorem good_laws_toSealS (fu : Nat) : ∀ xs o, S_laws_toSealS fu xs = some o → ∀ y, o.x = some y → Good E Try.prog 31 xs (o.g y) := by
  intro xs o h y hy
  unfold S_laws_toSealS at h
  split at h
  · rename_i za0_0 na0_0 fa0_0
    cases h
    exact goodv_laws_toSealS fu (⟨za0_0, na0_0, fa0_0⟩ : (Sl S_laws_Seal)) y hy
  · cases h
end Go.Proofs.Ytnfippmeficfjaa.Pc
