/- The functions' evaluated forms, each a proved summary. Conditions: none. -/
import Derived.Test.YtjdgfkmiaikegaaPdF5
namespace Go.Proofs.Ytjdgfkmiaikegaa.Pd
open Go Go.RowKit Go.Proofs Vm
set_option linter.unusedVariables false
set_option linter.unusedSimpArgs false
set_option maxRecDepth 100000
/-! laws.eqInt64S -/
def F_laws_eqInt64S_B0 {ρ : Type} (fu : Nat) (a0_0 : (Sl Int)) (b1_1 : (Sl Int)) (k0 : Option ρ) (k1 : Option ρ) (i5_2 : Int) (go : Int → Option ρ) : Option ρ :=
  (bif (decide (i5_2 < ((a0_0.n : Nat) : Int))) then ((bif (decide (0 ≤ i5_2) && decide ((Int.toNat i5_2) < a0_0.n)) then some () else none : Option Unit).bind fun _ => ((bif (decide (0 ≤ i5_2) &&
    decide ((Int.toNat i5_2) < b1_1.n)) then some () else none : Option Unit).bind fun _ => (bif ((a0_0.f (Int.toNat i5_2)) != (b1_1.f (Int.toNat i5_2))) then k0 else (go (IntKind.wrap .i64 (i5_2 + 1)))))) else
    k1)
def F_laws_eqInt64S (fu : Nat) (a_0 : (Sl Int)) (b_1 : (Sl Int)) : Option (Bool) :=
  (bif (((a_0.n : Nat) : Int) != ((b_1.n : Nat) : Int)) then (some false) else (L (fun w0 go0 => F_laws_eqInt64S_B0 fu a_0 b_1 (some false) (some true) w0 go0) fu (0 : Int)))
def pc_b30 (fu : Nat) : Pc RT den := ⟨pcf0, fun _ => false, fun _ => false, pcd0, pcd0, pcx0⟩
def msk_b30 (b : Nat) : List Nat := match b with | 0 => (2 :: 3 :: 4 :: (rg 6 20 [])) | 100000 => (0 :: 1 :: 2 :: 3 :: (rg 5 21 [])) | _ => []
def ps_b30_0 : List (Pat RT) := (.flat (.rs .i64) :: .flat (.rs .i64) :: .flat .q :: .flat .q :: .flat .q :: .flat (.int .i64) :: (fq 20 []))
def os_b30_0 : List (OP RT) := []
def conv_b30_0 (r : Raw den ps_b30_0 os_b30_0) : ((Sl Int) × (Sl Int)) × (Int) := ((r.1.1, r.1.2.1), (e5 r.1).1)
def back_b30_0 (c : (Sl Int) × (Sl Int)) (w : Int) : St RT den := ⟨((.rs c.1.z .i64 c.1.n c.1.f) :: (.rs c.2.z .i64 c.2.n c.2.f) :: .q :: .q :: .q :: (.int .i64 w) :: (qs 20 [])), []⟩
def Bk_b30_0 {ρ : Type} (fu : Nat) (c : (Sl Int) × (Sl Int)) (k : Ex → St RT den → Option ρ) (w : Int) (go : (Int) → Option ρ) : Option ρ := F_laws_eqInt64S_B0 fu c.1 c.2 (k .ret ⟨(qs 4 ((.bool false) :: (qs 21 []))), []⟩) (k (.exit 0) ⟨(qs 26 []), []⟩) w go
def lp_b30 (fu : Nat) : Lp RT den (Bool) := ⟨fun b s k => match b with | 0 => handle ps_b30_0 os_b30_0 conv_b30_0 (Bk_b30_0 fu) fu s k | _ => none, inl0⟩
theorem ev_b30 (fu : Nat) (a_0 : (Sl Int)) (b_1 : (Sl Int)) : evFun E (pc_b30 fu) msk_b30 (lp_b30 fu) out_bo 40 [(.rs a_0.z .i64 a_0.n a_0.f), (.rs b_1.z .i64 b_1.n b_1.f)] = F_laws_eqInt64S fu a_0 b_1 := by kernel_rfl
noncomputable def body_b30 : Code := Try.f40.body.getD .skip
noncomputable def lc_b30_0 : Code := ((loops 0 body_b30).getD 0 (0, .skip)).2
theorem round_b30_0 (fu : Nat) (it : St RT den → Option (Bool)) (k : Ex → St RT den → Option (Bool)) c w : evCode E (pc_b30 fu) msk_b30 (lp_b30 fu) 0 lc_b30_0 (back_b30_0 c w) (after (msk_b30 0) (msk_b30 100000) 0 it k) = Bk_b30_0 fu c k w (fun w => it (back_b30_0 c w)) := by kernel_rfl
theorem lpok_b30_0 (fu : Nat) : ∀ s k r, (lp_b30 fu).lp 0 s k = some r → ∃ fuel, iter (msk_b30 0) (msk_b30 100000) s.objs.length (evCode E (pc_b30 fu) msk_b30 (lp_b30 fu) 0 lc_b30_0) fuel s k = some r :=
  handle_ok (ps := ps_b30_0) (os := os_b30_0) (conv := conv_b30_0) (B := Bk_b30_0 fu) (fu := fu) back_b30_0 (fun raw => by kernel_rfl) 0 (fun c w => by kernel_rfl) (round_b30_0 fu)
theorem lpok_b30 (fu : Nat) : LpOk E (pc_b30 fu) 0 msk_b30 (lp_b30 fu) (loops 0 body_b30) := lp_nil (loop_all 1 (by kernel_rfl) fun i hi => match i, hi with
  | 0, _ => by
    have h : (loops 0 body_b30).getD 0 (0, .skip) = (0, lc_b30_0) := by kernel_rfl
    rw [h]; exact lpok_b30_0 fu
  | i + 1, hi => absurd hi (by omega)) (by kernel_rfl)
def S_b30 (fu : Nat) (xs : List (D RT den)) : Option (Out RT den) := match xs with | [.rs za0_0 .i64 na0_0 fa0_0, .rs za1_0 .i64 na1_0 fa1_0] => some ⟨Bool, F_laws_eqInt64S fu (⟨za0_0, na0_0, fa0_0⟩ : (Sl Int)) (⟨za1_0, na1_0, fa1_0⟩ : (Sl Int)), enc_bo, fun _ => true⟩ | _ => none
theorem goodv_b30 (fu : Nat) (a_0 : (Sl Int)) (b_1 : (Sl Int)) (y : Bool) (hy : F_laws_eqInt64S fu a_0 b_1 = some y) : Good E Try.prog 40 [(.rs a_0.z .i64 a_0.n a_0.f), (.rs b_1.z .i64 b_1.n b_1.f)] (enc_bo y) :=
  fun_good E_ok (pc_good (pc := pc_b30 fu) hpc0 hpx0) (fn := Try.f40) (c := body_b30) (out := out_bo) (y := y) (by kernel_rfl) (by kernel_rfl) (by kernel_rfl) (lpok_b30 fu) (fun d hd => out_bo_enc d _ hd) ((ev_b30 fu a_0 b_1).trans hy)
theorem good_b30 (fu : Nat) : ∀ xs o, S_b30 fu xs = some o → ∀ y, o.x = some y → Good E Try.prog 40 xs (o.g y) := by
  intro xs o h y hy
  unfold S_b30 at h
  split at h
  · rename_i za0_0 na0_0 fa0_0 za1_0 na1_0 fa1_0
    cases h
    exact goodv_b30 fu (⟨za0_0, na0_0, fa0_0⟩ : (Sl Int)) (⟨za1_0, na1_0, fa1_0⟩ : (Sl Int)) y hy
  · cases h

/-! laws.eqNode -/
def F_laws_eqNode (fu : Nat) (a_0 : S_impl_Node) (b_1 : S_impl_Node) : Option (Bool) :=
  (bif (a_0.Id != b_1.Id) then (some false) else (bif (a_0.Peers != b_1.Peers) then (some false) else (bif (a_0.Term != b_1.Term) then (some false) else (bif (a_0.Voted != b_1.Voted) then
    (some false) else ((F_laws_eqEntryS fu a_0.Log b_1.Log).bind fun y409 => (bif (!y409) then (some false) else (bif (a_0.Role != b_1.Role) then (some false) else (bif (a_0.Commit != b_1.Commit) then
    (some false) else ((F_laws_eqInt64S fu a_0.Votes b_1.Votes).bind fun y410 => (bif (!y410) then (some false) else ((F_laws_eqInt64S fu a_0.Next b_1.Next).bind fun y411 => (bif (!y411) then
    (some false) else ((F_laws_eqInt64S fu a_0.Match b_1.Match).bind fun y412 => (bif (!y412) then (some false) else (some true)))))))))))))))
def pcf_b31 (fu : Nat) (f : Nat) (xs : List (D RT den)) : Option (Out RT den) := match f with | 39 => S_b29 fu xs | 40 => S_b30 fu xs | _ => none
def pc_b31 (fu : Nat) : Pc RT den := ⟨pcf_b31 fu, fun _ => false, fun _ => false, pcd0, pcd0, pcx0⟩
def msk_b31 (b : Nat) : List Nat := []
def lp_b31 (fu : Nat) : Lp RT den (Bool) := ⟨fun b s k => none, inl0⟩
theorem ev_b31 (fu : Nat) (a_0 : S_impl_Node) (b_1 : S_impl_Node) : evFun E (pc_b31 fu) msk_b31 (lp_b31 fu) out_bo 11 [(.agg [(.int .i64 a_0.Id), (.int .i64 a_0.Peers), (.int .i64 a_0.Term), (.int .i64 a_0.Voted), (.rs a_0.Log.z .impl_Entry a_0.Log.n a_0.Log.f), (.int .i64 a_0.Role), (.int .i64 a_0.Commit), (.rs a_0.Votes.z .i64 a_0.Votes.n a_0.Votes.f), (.rs a_0.Next.z .i64 a_0.Next.n a_0.Next.f), (.rs a_0.Match.z .i64 a_0.Match.n a_0.Match.f)]), (.agg [(.int .i64 b_1.Id), (.int .i64 b_1.Peers), (.int .i64 b_1.Term), (.int .i64 b_1.Voted), (.rs b_1.Log.z .impl_Entry b_1.Log.n b_1.Log.f), (.int .i64 b_1.Role), (.int .i64 b_1.Commit), (.rs b_1.Votes.z .i64 b_1.Votes.n b_1.Votes.f), (.rs b_1.Next.z .i64 b_1.Next.n b_1.Next.f), (.rs b_1.Match.z .i64 b_1.Match.n b_1.Match.f)])] = F_laws_eqNode fu a_0 b_1 := by kernel_rfl
noncomputable def body_b31 : Code := Try.f11.body.getD .skip
theorem lpok_b31 (fu : Nat) : LpOk E (pc_b31 fu) 0 msk_b31 (lp_b31 fu) (loops 0 body_b31) := lp_nil (loop_nil (by kernel_rfl)) (by kernel_rfl)
def S_b31 (fu : Nat) (xs : List (D RT den)) : Option (Out RT den) := match xs with | [.agg [.int .i64 a0_1, .int .i64 a0_2, .int .i64 a0_3, .int .i64 a0_4, .rs za0_5 .impl_Entry na0_5 fa0_5, .int .i64 a0_6, .int .i64 a0_7, .rs za0_8 .i64 na0_8 fa0_8, .rs za0_9 .i64 na0_9 fa0_9, .rs za0_10 .i64 na0_10 fa0_10], .agg [.int .i64 a1_1, .int .i64 a1_2, .int .i64 a1_3, .int .i64 a1_4, .rs za1_5 .impl_Entry na1_5 fa1_5, .int .i64 a1_6, .int .i64 a1_7, .rs za1_8 .i64 na1_8 fa1_8, .rs za1_9 .i64 na1_9 fa1_9, .rs za1_10 .i64 na1_10 fa1_10]] => some ⟨Bool, F_laws_eqNode fu (⟨a0_1, a0_2, a0_3, a0_4, (⟨za0_5, na0_5, fa0_5⟩ : (Sl S_impl_Entry)), a0_6, a0_7, (⟨za0_8, na0_8, fa0_8⟩ : (Sl Int)), (⟨za0_9, na0_9, fa0_9⟩ : (Sl Int)), (⟨za0_10, na0_10, fa0_10⟩ : (Sl Int))⟩ : S_impl_Node) (⟨a1_1, a1_2, a1_3, a1_4, (⟨za1_5, na1_5, fa1_5⟩ : (Sl S_impl_Entry)), a1_6, a1_7, (⟨za1_8, na1_8, fa1_8⟩ : (Sl Int)), (⟨za1_9, na1_9, fa1_9⟩ : (Sl Int)), (⟨za1_10, na1_10, fa1_10⟩ : (Sl Int))⟩ : S_impl_Node), enc_bo, fun _ => true⟩ | _ => none
theorem hpc_b31 (fu : Nat) : ∀ f xs o, pcf_b31 fu f xs = some o → ∀ y, o.x = some y → Good E Try.prog f xs (o.g y) := by
  intro f xs o h
  unfold pcf_b31 at h
  split at h
  · exact good_b29 fu xs o h
  · exact good_b30 fu xs o h
  · cases h
theorem goodv_b31 (fu : Nat) (a_0 : S_impl_Node) (b_1 : S_impl_Node) (y : Bool) (hy : F_laws_eqNode fu a_0 b_1 = some y) : Good E Try.prog 11 [(.agg [(.int .i64 a_0.Id), (.int .i64 a_0.Peers), (.int .i64 a_0.Term), (.int .i64 a_0.Voted), (.rs a_0.Log.z .impl_Entry a_0.Log.n a_0.Log.f), (.int .i64 a_0.Role), (.int .i64 a_0.Commit), (.rs a_0.Votes.z .i64 a_0.Votes.n a_0.Votes.f), (.rs a_0.Next.z .i64 a_0.Next.n a_0.Next.f), (.rs a_0.Match.z .i64 a_0.Match.n a_0.Match.f)]), (.agg [(.int .i64 b_1.Id), (.int .i64 b_1.Peers), (.int .i64 b_1.Term), (.int .i64 b_1.Voted), (.rs b_1.Log.z .impl_Entry b_1.Log.n b_1.Log.f), (.int .i64 b_1.Role), (.int .i64 b_1.Commit), (.rs b_1.Votes.z .i64 b_1.Votes.n b_1.Votes.f), (.rs b_1.Next.z .i64 b_1.Next.n b_1.Next.f), (.rs b_1.Match.z .i64 b_1.Match.n b_1.Match.f)])] (enc_bo y) :=
  fun_good E_ok (pc_good (pc := pc_b31 fu) (hpc_b31 fu) hpx0) (fn := Try.f11) (c := body_b31) (out := out_bo) (y := y) (by kernel_rfl) (by kernel_rfl) (by kernel_rfl) (lpok_b31 fu) (fun d hd => out_bo_enc d _ hd) ((ev_b31 fu a_0 b_1).trans hy)
theorem good_b31 (fu : Nat) : ∀ xs o, S_b31 fu xs = some o → ∀ y, o.x = some y → Good E Try.prog 11 xs (o.g y) := by
  intro xs o h y hy
  unfold S_b31 at h
  split at h
  · rename_i a0_1 a0_2 a0_3 a0_4 za0_5 na0_5 fa0_5 a0_6 a0_7 za0_8 na0_8 fa0_8 za0_9 na0_9 fa0_9 za0_10 na0_10 fa0_10 a1_1 a1_2 a1_3 a1_4 za1_5 na1_5 fa1_5 a1_6 a1_7 za1_8 na1_8 fa1_8 za1_9 na1_9 fa1_9 za1_10 na1_10 fa1_10
    cases h
    exact goodv_b31 fu (⟨a0_1, a0_2, a0_3, a0_4, (⟨za0_5, na0_5, fa0_5⟩ : (Sl S_impl_Entry)), a0_6, a0_7, (⟨za0_8, na0_8, fa0_8⟩ : (Sl Int)), (⟨za0_9, na0_9, fa0_9⟩ : (Sl Int)), (⟨za0_10, na0_10, fa0_10⟩ : (Sl Int))⟩ : S_impl_Node) (⟨a1_1, a1_2, a1_3, a1_4, (⟨za1_5, na1_5, fa1_5⟩ : (Sl S_impl_Entry)), a1_6, a1_7, (⟨za1_8, na1_8, fa1_8⟩ : (Sl Int)), (⟨za1_9, na1_9, fa1_9⟩ : (Sl Int)), (⟨za1_10, na1_10, fa1_10⟩ : (Sl Int))⟩ : S_impl_Node) y hy
  · cases h

/-! laws.eqMail -/
def F_laws_eqMail (fu : Nat) (a_0 : S_impl_Mail) (b_1 : S_impl_Mail) : Option (Bool) :=
  (bif (a_0.Kind != b_1.Kind) then (some false) else (bif (a_0.From != b_1.From) then (some false) else (bif (a_0.To != b_1.To) then (some false) else (bif (a_0.Term != b_1.Term) then
    (some false) else (bif (a_0.Index != b_1.Index) then (some false) else (bif (a_0.Last != b_1.Last) then (some false) else (bif (a_0.Commit != b_1.Commit) then (some false) else
    (bif (!(a_0.Ok == b_1.Ok)) then (some false) else ((F_laws_eqEntryS fu a_0.Entries b_1.Entries).bind fun y416 => (bif (!y416) then (some false) else (some true)))))))))))
def pcf_b32 (fu : Nat) (f : Nat) (xs : List (D RT den)) : Option (Out RT den) := match f with | 39 => S_b29 fu xs | _ => none
def pc_b32 (fu : Nat) : Pc RT den := ⟨pcf_b32 fu, fun _ => false, fun _ => false, pcd0, pcd0, pcx0⟩
def msk_b32 (b : Nat) : List Nat := []
def lp_b32 (fu : Nat) : Lp RT den (Bool) := ⟨fun b s k => none, inl0⟩
theorem ev_b32 (fu : Nat) (a_0 : S_impl_Mail) (b_1 : S_impl_Mail) : evFun E (pc_b32 fu) msk_b32 (lp_b32 fu) out_bo 77 [(.agg [(.int .i64 a_0.Kind), (.int .i64 a_0.From), (.int .i64 a_0.To), (.int .i64 a_0.Term), (.int .i64 a_0.Index), (.int .i64 a_0.Last), (.int .i64 a_0.Commit), (.bool a_0.Ok), (.rs a_0.Entries.z .impl_Entry a_0.Entries.n a_0.Entries.f)]), (.agg [(.int .i64 b_1.Kind), (.int .i64 b_1.From), (.int .i64 b_1.To), (.int .i64 b_1.Term), (.int .i64 b_1.Index), (.int .i64 b_1.Last), (.int .i64 b_1.Commit), (.bool b_1.Ok), (.rs b_1.Entries.z .impl_Entry b_1.Entries.n b_1.Entries.f)])] = F_laws_eqMail fu a_0 b_1 := by kernel_rfl
noncomputable def body_b32 : Code := Try.f77.body.getD .skip
theorem lpok_b32 (fu : Nat) : LpOk E (pc_b32 fu) 0 msk_b32 (lp_b32 fu) (loops 0 body_b32) := lp_nil (loop_nil (by kernel_rfl)) (by kernel_rfl)
def S_b32 (fu : Nat) (xs : List (D RT den)) : Option (Out RT den) := match xs with | [.agg [.int .i64 a0_1, .int .i64 a0_2, .int .i64 a0_3, .int .i64 a0_4, .int .i64 a0_5, .int .i64 a0_6, .int .i64 a0_7, .bool a0_8, .rs za0_9 .impl_Entry na0_9 fa0_9], .agg [.int .i64 a1_1, .int .i64 a1_2, .int .i64 a1_3, .int .i64 a1_4, .int .i64 a1_5, .int .i64 a1_6, .int .i64 a1_7, .bool a1_8, .rs za1_9 .impl_Entry na1_9 fa1_9]] => some ⟨Bool, F_laws_eqMail fu (⟨a0_1, a0_2, a0_3, a0_4, a0_5, a0_6, a0_7, a0_8, (⟨za0_9, na0_9, fa0_9⟩ : (Sl S_impl_Entry))⟩ : S_impl_Mail) (⟨a1_1, a1_2, a1_3, a1_4, a1_5, a1_6, a1_7, a1_8, (⟨za1_9, na1_9, fa1_9⟩ : (Sl S_impl_Entry))⟩ : S_impl_Mail), enc_bo, fun _ => true⟩ | _ => none
theorem hpc_b32 (fu : Nat) : ∀ f xs o, pcf_b32 fu f xs = some o → ∀ y, o.x = some y → Good E Try.prog f xs (o.g y) := by
  intro f xs o h
  unfold pcf_b32 at h
  split at h
  · exact good_b29 fu xs o h
  · cases h
theorem goodv_b32 (fu : Nat) (a_0 : S_impl_Mail) (b_1 : S_impl_Mail) (y : Bool) (hy : F_laws_eqMail fu a_0 b_1 = some y) : Good E Try.prog 77 [(.agg [(.int .i64 a_0.Kind), (.int .i64 a_0.From), (.int .i64 a_0.To), (.int .i64 a_0.Term), (.int .i64 a_0.Index), (.int .i64 a_0.Last), (.int .i64 a_0.Commit), (.bool a_0.Ok), (.rs a_0.Entries.z .impl_Entry a_0.Entries.n a_0.Entries.f)]), (.agg [(.int .i64 b_1.Kind), (.int .i64 b_1.From), (.int .i64 b_1.To), (.int .i64 b_1.Term), (.int .i64 b_1.Index), (.int .i64 b_1.Last), (.int .i64 b_1.Commit), (.bool b_1.Ok), (.rs b_1.Entries.z .impl_Entry b_1.Entries.n b_1.Entries.f)])] (enc_bo y) :=
  fun_good E_ok (pc_good (pc := pc_b32 fu) (hpc_b32 fu) hpx0) (fn := Try.f77) (c := body_b32) (out := out_bo) (y := y) (by kernel_rfl) (by kernel_rfl) (by kernel_rfl) (lpok_b32 fu) (fun d hd => out_bo_enc d _ hd) ((ev_b32 fu a_0 b_1).trans hy)
theorem good_b32 (fu : Nat) : ∀ xs o, S_b32 fu xs = some o → ∀ y, o.x = some y → Good E Try.prog 77 xs (o.g y) := by
  intro xs o h y hy
  unfold S_b32 at h
  split at h
  · rename_i a0_1 a0_2 a0_3 a0_4 a0_5 a0_6 a0_7 a0_8 za0_9 na0_9 fa0_9 a1_1 a1_2 a1_3 a1_4 a1_5 a1_6 a1_7 a1_8 za1_9 na1_9 fa1_9
    cases h
    exact goodv_b32 fu (⟨a0_1, a0_2, a0_3, a0_4, a0_5, a0_6, a0_7, a0_8, (⟨za0_9, na0_9, fa0_9⟩ : (Sl S_impl_Entry))⟩ : S_impl_Mail) (⟨a1_1, a1_2, a1_3, a1_4, a1_5, a1_6, a1_7, a1_8, (⟨za1_9, na1_9, fa1_9⟩ : (Sl S_impl_Entry))⟩ : S_impl_Mail) y hy
  · cases h

/-! laws.eqMailS -/
def F_laws_eqMailS_B0 {ρ : Type} (fu : Nat) (a0_0 : (Sl S_impl_Mail)) (b1_1 : (Sl S_impl_Mail)) (k0 : Option ρ) (k1 : Option ρ) (i5_2 : Int) (go : Int → Option ρ) : Option ρ :=
  (bif (decide (i5_2 < ((a0_0.n : Nat) : Int))) then ((bif (decide (0 ≤ i5_2) && decide ((Int.toNat i5_2) < a0_0.n)) then some () else none : Option Unit).bind fun _ => ((bif (decide (0 ≤ i5_2) &&
    decide ((Int.toNat i5_2) < b1_1.n)) then some () else none : Option Unit).bind fun _ => ((F_laws_eqMail fu (a0_0.f (Int.toNat i5_2)) (b1_1.f (Int.toNat i5_2))).bind fun y415 =>
    (bif (!y415) then k0 else (go (IntKind.wrap .i64 (i5_2 + 1))))))) else k1)
def F_laws_eqMailS (fu : Nat) (a_0 : (Sl S_impl_Mail)) (b_1 : (Sl S_impl_Mail)) : Option (Bool) :=
  (bif (((a_0.n : Nat) : Int) != ((b_1.n : Nat) : Int)) then (some false) else (L (fun w0 go0 => F_laws_eqMailS_B0 fu a_0 b_1 (some false) (some true) w0 go0) fu (0 : Int)))
def pcf_b33 (fu : Nat) (f : Nat) (xs : List (D RT den)) : Option (Out RT den) := match f with | 77 => S_b32 fu xs | _ => none
def pc_b33 (fu : Nat) : Pc RT den := ⟨pcf_b33 fu, fun _ => false, fun _ => false, pcd0, pcd0, pcx0⟩
def msk_b33 (b : Nat) : List Nat := match b with | 0 => (2 :: 3 :: 4 :: (rg 6 21 [])) | 100000 => (0 :: 1 :: 2 :: 3 :: (rg 5 22 [])) | _ => []
def ps_b33_0 : List (Pat RT) := (.flat (.rs .impl_Mail) :: .flat (.rs .impl_Mail) :: .flat .q :: .flat .q :: .flat .q :: .flat (.int .i64) :: (fq 21 []))
def os_b33_0 : List (OP RT) := []
def conv_b33_0 (r : Raw den ps_b33_0 os_b33_0) : ((Sl S_impl_Mail) × (Sl S_impl_Mail)) × (Int) := ((r.1.1, r.1.2.1), (e5 r.1).1)
def back_b33_0 (c : (Sl S_impl_Mail) × (Sl S_impl_Mail)) (w : Int) : St RT den := ⟨((.rs c.1.z .impl_Mail c.1.n c.1.f) :: (.rs c.2.z .impl_Mail c.2.n c.2.f) :: .q :: .q :: .q :: (.int .i64 w) :: (qs 21 [])), []⟩
def Bk_b33_0 {ρ : Type} (fu : Nat) (c : (Sl S_impl_Mail) × (Sl S_impl_Mail)) (k : Ex → St RT den → Option ρ) (w : Int) (go : (Int) → Option ρ) : Option ρ := F_laws_eqMailS_B0 fu c.1 c.2 (k .ret ⟨(qs 4 ((.bool false) :: (qs 22 []))), []⟩) (k (.exit 0) ⟨(qs 27 []), []⟩) w go
def lp_b33 (fu : Nat) : Lp RT den (Bool) := ⟨fun b s k => match b with | 0 => handle ps_b33_0 os_b33_0 conv_b33_0 (Bk_b33_0 fu) fu s k | _ => none, inl0⟩
theorem ev_b33 (fu : Nat) (a_0 : (Sl S_impl_Mail)) (b_1 : (Sl S_impl_Mail)) : evFun E (pc_b33 fu) msk_b33 (lp_b33 fu) out_bo 38 [(.rs a_0.z .impl_Mail a_0.n a_0.f), (.rs b_1.z .impl_Mail b_1.n b_1.f)] = F_laws_eqMailS fu a_0 b_1 := by kernel_rfl
noncomputable def body_b33 : Code := Try.f38.body.getD .skip
noncomputable def lc_b33_0 : Code := ((loops 0 body_b33).getD 0 (0, .skip)).2
theorem round_b33_0 (fu : Nat) (it : St RT den → Option (Bool)) (k : Ex → St RT den → Option (Bool)) c w : evCode E (pc_b33 fu) msk_b33 (lp_b33 fu) 0 lc_b33_0 (back_b33_0 c w) (after (msk_b33 0) (msk_b33 100000) 0 it k) = Bk_b33_0 fu c k w (fun w => it (back_b33_0 c w)) := by kernel_rfl
theorem lpok_b33_0 (fu : Nat) : ∀ s k r, (lp_b33 fu).lp 0 s k = some r → ∃ fuel, iter (msk_b33 0) (msk_b33 100000) s.objs.length (evCode E (pc_b33 fu) msk_b33 (lp_b33 fu) 0 lc_b33_0) fuel s k = some r :=
  handle_ok (ps := ps_b33_0) (os := os_b33_0) (conv := conv_b33_0) (B := Bk_b33_0 fu) (fu := fu) back_b33_0 (fun raw => by kernel_rfl) 0 (fun c w => by kernel_rfl) (round_b33_0 fu)
theorem lpok_b33 (fu : Nat) : LpOk E (pc_b33 fu) 0 msk_b33 (lp_b33 fu) (loops 0 body_b33) := lp_nil (loop_all 1 (by kernel_rfl) fun i hi => match i, hi with
  | 0, _ => by
    have h : (loops 0 body_b33).getD 0 (0, .skip) = (0, lc_b33_0) := by kernel_rfl
    rw [h]; exact lpok_b33_0 fu
  | i + 1, hi => absurd hi (by omega)) (by kernel_rfl)
def S_b33 (fu : Nat) (xs : List (D RT den)) : Option (Out RT den) := match xs with | [.rs za0_0 .impl_Mail na0_0 fa0_0, .rs za1_0 .impl_Mail na1_0 fa1_0] => some ⟨Bool, F_laws_eqMailS fu (⟨za0_0, na0_0, fa0_0⟩ : (Sl S_impl_Mail)) (⟨za1_0, na1_0, fa1_0⟩ : (Sl S_impl_Mail)), enc_bo, fun _ => true⟩ | _ => none
theorem hpc_b33 (fu : Nat) : ∀ f xs o, pcf_b33 fu f xs = some o → ∀ y, o.x = some y → Good E Try.prog f xs (o.g y) := by
  intro f xs o h
  unfold pcf_b33 at h
  split at h
  · exact good_b32 fu xs o h
  · cases h
theorem goodv_b33 (fu : Nat) (a_0 : (Sl S_impl_Mail)) (b_1 : (Sl S_impl_Mail)) (y : Bool) (hy : F_laws_eqMailS fu a_0 b_1 = some y) : Good E Try.prog 38 [(.rs a_0.z .impl_Mail a_0.n a_0.f), (.rs b_1.z .impl_Mail b_1.n b_1.f)] (enc_bo y) :=
  fun_good E_ok (pc_good (pc := pc_b33 fu) (hpc_b33 fu) hpx0) (fn := Try.f38) (c := body_b33) (out := out_bo) (y := y) (by kernel_rfl) (by kernel_rfl) (by kernel_rfl) (lpok_b33 fu) (fun d hd => out_bo_enc d _ hd) ((ev_b33 fu a_0 b_1).trans hy)
theorem good_b33 (fu : Nat) : ∀ xs o, S_b33 fu xs = some o → ∀ y, o.x = some y → Good E Try.prog 38 xs (o.g y) := by
  intro xs o h y hy
  unfold S_b33 at h
  split at h
  · rename_i za0_0 na0_0 fa0_0 za1_0 na1_0 fa1_0
    cases h
    exact goodv_b33 fu (⟨za0_0, na0_0, fa0_0⟩ : (Sl S_impl_Mail)) (⟨za1_0, na1_0, fa1_0⟩ : (Sl S_impl_Mail)) y hy
  · cases h

/-! laws.eqNodeResult -/
def F_laws_eqNodeResult (fu : Nat) (a_0 : S_impl_NodeResult) (b_1 : S_impl_NodeResult) : Option (Bool) :=
  (bif (a_0.Code != b_1.Code) then (some false) else ((F_laws_eqNode fu a_0.Node b_1.Node).bind fun y407 => (bif (!y407) then (some false) else ((F_laws_eqMailS fu a_0.Send b_1.Send).bind fun y408 =>
    (bif (!y408) then (some false) else (some true))))))
def pcf_b34 (fu : Nat) (f : Nat) (xs : List (D RT den)) : Option (Out RT den) := match f with | 11 => S_b31 fu xs | 38 => S_b33 fu xs | _ => none
def pc_b34 (fu : Nat) : Pc RT den := ⟨pcf_b34 fu, fun _ => false, fun _ => false, pcd0, pcd0, pcx0⟩
def msk_b34 (b : Nat) : List Nat := []
def lp_b34 (fu : Nat) : Lp RT den (Bool) := ⟨fun b s k => none, inl0⟩
theorem ev_b34 (fu : Nat) (a_0 : S_impl_NodeResult) (b_1 : S_impl_NodeResult) : evFun E (pc_b34 fu) msk_b34 (lp_b34 fu) out_bo 10 [(.agg [(.int .i64 a_0.Code), (.int .i64 a_0.Node.Id), (.int .i64 a_0.Node.Peers), (.int .i64 a_0.Node.Term), (.int .i64 a_0.Node.Voted), (.rs a_0.Node.Log.z .impl_Entry a_0.Node.Log.n a_0.Node.Log.f), (.int .i64 a_0.Node.Role), (.int .i64 a_0.Node.Commit), (.rs a_0.Node.Votes.z .i64 a_0.Node.Votes.n a_0.Node.Votes.f), (.rs a_0.Node.Next.z .i64 a_0.Node.Next.n a_0.Node.Next.f), (.rs a_0.Node.Match.z .i64 a_0.Node.Match.n a_0.Node.Match.f), (.rs a_0.Send.z .impl_Mail a_0.Send.n a_0.Send.f)]), (.agg [(.int .i64 b_1.Code), (.int .i64 b_1.Node.Id), (.int .i64 b_1.Node.Peers), (.int .i64 b_1.Node.Term), (.int .i64 b_1.Node.Voted), (.rs b_1.Node.Log.z .impl_Entry b_1.Node.Log.n b_1.Node.Log.f), (.int .i64 b_1.Node.Role), (.int .i64 b_1.Node.Commit), (.rs b_1.Node.Votes.z .i64 b_1.Node.Votes.n b_1.Node.Votes.f), (.rs b_1.Node.Next.z .i64 b_1.Node.Next.n b_1.Node.Next.f), (.rs b_1.Node.Match.z .i64 b_1.Node.Match.n b_1.Node.Match.f), (.rs b_1.Send.z .impl_Mail b_1.Send.n b_1.Send.f)])] = F_laws_eqNodeResult fu a_0 b_1 := by kernel_rfl
noncomputable def body_b34 : Code := Try.f10.body.getD .skip
theorem lpok_b34 (fu : Nat) : LpOk E (pc_b34 fu) 0 msk_b34 (lp_b34 fu) (loops 0 body_b34) := lp_nil (loop_nil (by kernel_rfl)) (by kernel_rfl)
def S_b34 (fu : Nat) (xs : List (D RT den)) : Option (Out RT den) := match xs with | [.agg [.int .i64 a0_1, .int .i64 a0_3, .int .i64 a0_4, .int .i64 a0_5, .int .i64 a0_6, .rs za0_7 .impl_Entry na0_7 fa0_7, .int .i64 a0_8, .int .i64 a0_9, .rs za0_10 .i64 na0_10 fa0_10, .rs za0_11 .i64 na0_11 fa0_11, .rs za0_12 .i64 na0_12 fa0_12, .rs za0_13 .impl_Mail na0_13 fa0_13], .agg [.int .i64 a1_1, .int .i64 a1_3, .int .i64 a1_4, .int .i64 a1_5, .int .i64 a1_6, .rs za1_7 .impl_Entry na1_7 fa1_7, .int .i64 a1_8, .int .i64 a1_9, .rs za1_10 .i64 na1_10 fa1_10, .rs za1_11 .i64 na1_11 fa1_11, .rs za1_12 .i64 na1_12 fa1_12, .rs za1_13 .impl_Mail na1_13 fa1_13]] => some ⟨Bool, F_laws_eqNodeResult fu (⟨a0_1, (⟨a0_3, a0_4, a0_5, a0_6, (⟨za0_7, na0_7, fa0_7⟩ : (Sl S_impl_Entry)), a0_8, a0_9, (⟨za0_10, na0_10, fa0_10⟩ : (Sl Int)), (⟨za0_11, na0_11, fa0_11⟩ : (Sl Int)), (⟨za0_12, na0_12, fa0_12⟩ : (Sl Int))⟩ : S_impl_Node), (⟨za0_13, na0_13, fa0_13⟩ : (Sl S_impl_Mail))⟩ : S_impl_NodeResult) (⟨a1_1, (⟨a1_3, a1_4, a1_5, a1_6, (⟨za1_7, na1_7, fa1_7⟩ : (Sl S_impl_Entry)), a1_8, a1_9, (⟨za1_10, na1_10, fa1_10⟩ : (Sl Int)), (⟨za1_11, na1_11, fa1_11⟩ : (Sl Int)), (⟨za1_12, na1_12, fa1_12⟩ : (Sl Int))⟩ : S_impl_Node), (⟨za1_13, na1_13, fa1_13⟩ : (Sl S_impl_Mail))⟩ : S_impl_NodeResult), enc_bo, fun _ => true⟩ | _ => none
theorem hpc_b34 (fu : Nat) : ∀ f xs o, pcf_b34 fu f xs = some o → ∀ y, o.x = some y → Good E Try.prog f xs (o.g y) := by
  intro f xs o h
  unfold pcf_b34 at h
  split at h
  · exact good_b31 fu xs o h
  · exact good_b33 fu xs o h
  · cases h
theorem goodv_b34 (fu : Nat) (a_0 : S_impl_NodeResult) (b_1 : S_impl_NodeResult) (y : Bool) (hy : F_laws_eqNodeResult fu a_0 b_1 = some y) : Good E Try.prog 10 [(.agg [(.int .i64 a_0.Code), (.int .i64 a_0.Node.Id), (.int .i64 a_0.Node.Peers), (.int .i64 a_0.Node.Term), (.int .i64 a_0.Node.Voted), (.rs a_0.Node.Log.z .impl_Entry a_0.Node.Log.n a_0.Node.Log.f), (.int .i64 a_0.Node.Role), (.int .i64 a_0.Node.Commit), (.rs a_0.Node.Votes.z .i64 a_0.Node.Votes.n a_0.Node.Votes.f), (.rs a_0.Node.Next.z .i64 a_0.Node.Next.n a_0.Node.Next.f), (.rs a_0.Node.Match.z .i64 a_0.Node.Match.n a_0.Node.Match.f), (.rs a_0.Send.z .impl_Mail a_0.Send.n a_0.Send.f)]), (.agg [(.int .i64 b_1.Code), (.int .i64 b_1.Node.Id), (.int .i64 b_1.Node.Peers), (.int .i64 b_1.Node.Term), (.int .i64 b_1.Node.Voted), (.rs b_1.Node.Log.z .impl_Entry b_1.Node.Log.n b_1.Node.Log.f), (.int .i64 b_1.Node.Role), (.int .i64 b_1.Node.Commit), (.rs b_1.Node.Votes.z .i64 b_1.Node.Votes.n b_1.Node.Votes.f), (.rs b_1.Node.Next.z .i64 b_1.Node.Next.n b_1.Node.Next.f), (.rs b_1.Node.Match.z .i64 b_1.Node.Match.n b_1.Node.Match.f), (.rs b_1.Send.z .impl_Mail b_1.Send.n b_1.Send.f)])] (enc_bo y) :=
  fun_good E_ok (pc_good (pc := pc_b34 fu) (hpc_b34 fu) hpx0) (fn := Try.f10) (c := body_b34) (out := out_bo) (y := y) (by kernel_rfl) (by kernel_rfl) (by kernel_rfl) (lpok_b34 fu) (fun d hd => out_bo_enc d _ hd) ((ev_b34 fu a_0 b_1).trans hy)
theorem good_b34 (fu : Nat) : ∀ xs o, S_b34 fu xs = some o → ∀ y, o.x = some y → Good E Try.prog 10 xs (o.g y) := by
  intro xs o h y hy
  unfold S_b34 at h
  split at h
  · rename_i a0_1 a0_3 a0_4 a0_5 a0_6 za0_7 na0_7 fa0_7 a0_8 a0_9 za0_10 na0_10 fa0_10 za0_11 na0_11 fa0_11 za0_12 na0_12 fa0_12 za0_13 na0_13 fa0_13 a1_1 a1_3 a1_4 a1_5 a1_6 za1_7 na1_7 fa1_7 a1_8 a1_9 za1_10 na1_10 fa1_10 za1_11 na1_11 fa1_11 za1_12 na1_12 fa1_12 za1_13 na1_13 fa1_13
    cases h
    exact goodv_b34 fu (⟨a0_1, (⟨a0_3, a0_4, a0_5, a0_6, (⟨za0_7, na0_7, fa0_7⟩ : (Sl S_impl_Entry)), a0_8, a0_9, (⟨za0_10, na0_10, fa0_10⟩ : (Sl Int)), (⟨za0_11, na0_11, fa0_11⟩ : (Sl Int)), (⟨za0_12, na0_12, fa0_12⟩ : (Sl Int))⟩ : S_impl_Node), (⟨za0_13, na0_13, fa0_13⟩ : (Sl S_impl_Mail))⟩ : S_impl_NodeResult) (⟨a1_1, (⟨a1_3, a1_4, a1_5, a1_6, (⟨za1_7, na1_7, fa1_7⟩ : (Sl S_impl_Entry)), a1_8, a1_9, (⟨za1_10, na1_10, fa1_10⟩ : (Sl Int)), (⟨za1_11, na1_11, fa1_11⟩ : (Sl Int)), (⟨za1_12, na1_12, fa1_12⟩ : (Sl Int))⟩ : S_impl_Node), (⟨za1_13, na1_13, fa1_13⟩ : (Sl S_impl_Mail))⟩ : S_impl_NodeResult) y hy
  · cases h

/-! laws.heldEntryS -/
def F_laws_heldEntryS_B0 {ρ : Type} (fu : Nat) (a0_0 : (Sl S_impl_Entry)) (k0 : Int → Option ρ) (k1 : Int → Option ρ) (k1_1 : Int) (i5_2 : Int) (go : Int → Int → Option ρ) : Option ρ :=
  (bif (decide (i5_2 < ((a0_0.n : Nat) : Int))) then ((bif (decide (0 ≤ i5_2) && decide ((Int.toNat i5_2) < a0_0.n)) then some () else none : Option Unit).bind fun _ => (bif ((a0_0.f (Int.toNat i5_2)).Term != k1_1) then
    (k0 k1_1) else ((bif (decide (0 ≤ i5_2) && decide ((Int.toNat i5_2) < a0_0.n)) then some () else none : Option Unit).bind fun _ => (bif ((a0_0.f (Int.toNat i5_2)).Client != (IntKind.wrap .i64 (k1_1 + 1))) then
    (k0 (IntKind.wrap .i64 (k1_1 + 1))) else ((bif (decide (0 ≤ i5_2) && decide ((Int.toNat i5_2) < a0_0.n)) then some () else none : Option Unit).bind fun _ => (bif ((a0_0.f (Int.toNat i5_2)).Seq != (IntKind.wrap .i64 ((IntKind.wrap .i64 (k1_1 + 1)) + 1))) then
    (k0 (IntKind.wrap .i64 ((IntKind.wrap .i64 (k1_1 + 1)) + 1))) else ((bif (decide (0 ≤ i5_2) && decide ((Int.toNat i5_2) < a0_0.n)) then some () else none : Option Unit).bind fun _ =>
    (bif ((a0_0.f (Int.toNat i5_2)).Cmd.Kind != (IntKind.wrap .i64 ((IntKind.wrap .i64 ((IntKind.wrap .i64 (k1_1 + 1)) + 1)) + 1))) then (k0 (IntKind.wrap .i64 ((IntKind.wrap .i64 ((IntKind.wrap .i64 (k1_1 + 1)) + 1)) + 1))) else
    ((bif (decide (0 ≤ i5_2) && decide ((Int.toNat i5_2) < a0_0.n)) then some () else none : Option Unit).bind fun _ => (bif ((a0_0.f (Int.toNat i5_2)).Cmd.Expect != (IntKind.wrap .i64 ((IntKind.wrap .i64 ((IntKind.wrap .i64 ((IntKind.wrap .i64 (k1_1 + 1)) + 1)) + 1)) + 1))) then
    (k0 (IntKind.wrap .i64 ((IntKind.wrap .i64 ((IntKind.wrap .i64 ((IntKind.wrap .i64 (k1_1 + 1)) + 1)) + 1)) + 1))) else ((bif (decide (0 ≤ i5_2) && decide ((Int.toNat i5_2) < a0_0.n)) then
    some () else none : Option Unit).bind fun _ => (bif ((a0_0.f (Int.toNat i5_2)).Cmd.Name != (IntKind.wrap .i64 ((IntKind.wrap .i64 ((IntKind.wrap .i64 ((IntKind.wrap .i64 ((IntKind.wrap .i64 (k1_1 + 1)) + 1)) + 1)) + 1)) + 1))) then
    (k0 (IntKind.wrap .i64 ((IntKind.wrap .i64 ((IntKind.wrap .i64 ((IntKind.wrap .i64 ((IntKind.wrap .i64 (k1_1 + 1)) + 1)) + 1)) + 1)) + 1))) else ((bif (decide (0 ≤ i5_2) &&
    decide ((Int.toNat i5_2) < a0_0.n)) then some () else none : Option Unit).bind fun _ => (bif ((a0_0.f (Int.toNat i5_2)).Cmd.Addr != (IntKind.wrap .i64 ((IntKind.wrap .i64 ((IntKind.wrap .i64 ((IntKind.wrap .i64 ((IntKind.wrap .i64 ((IntKind.wrap .i64 (k1_1 + 1)) + 1)) + 1)) + 1)) + 1)) + 1))) then
    (k0 (IntKind.wrap .i64 ((IntKind.wrap .i64 ((IntKind.wrap .i64 ((IntKind.wrap .i64 ((IntKind.wrap .i64 ((IntKind.wrap .i64 (k1_1 + 1)) + 1)) + 1)) + 1)) + 1)) + 1))) else ((bif (decide (0 ≤ i5_2) &&
    decide ((Int.toNat i5_2) < a0_0.n)) then some () else none : Option Unit).bind fun _ => (bif ((a0_0.f (Int.toNat i5_2)).Cmd.Number != (IntKind.wrap .i64 ((IntKind.wrap .i64 ((IntKind.wrap .i64 ((IntKind.wrap .i64 ((IntKind.wrap .i64 ((IntKind.wrap .i64 ((IntKind.wrap .i64 (k1_1 + 1)) + 1)) + 1)) + 1)) + 1)) + 1)) + 1))) then
    (k0 (IntKind.wrap .i64 ((IntKind.wrap .i64 ((IntKind.wrap .i64 ((IntKind.wrap .i64 ((IntKind.wrap .i64 ((IntKind.wrap .i64 ((IntKind.wrap .i64 (k1_1 + 1)) + 1)) + 1)) + 1)) + 1)) + 1)) + 1))) else
    ((bif (decide (0 ≤ i5_2) && decide ((Int.toNat i5_2) < a0_0.n)) then some () else none : Option Unit).bind fun _ => (bif ((a0_0.f (Int.toNat i5_2)).Cmd.Proto != (IntKind.wrap .i64 ((IntKind.wrap .i64 ((IntKind.wrap .i64 ((IntKind.wrap .i64 ((IntKind.wrap .i64 ((IntKind.wrap .i64 ((IntKind.wrap .i64 ((IntKind.wrap .i64 (k1_1 + 1)) + 1)) + 1)) + 1)) + 1)) + 1)) + 1)) + 1))) then
    (k0 (IntKind.wrap .i64 ((IntKind.wrap .i64 ((IntKind.wrap .i64 ((IntKind.wrap .i64 ((IntKind.wrap .i64 ((IntKind.wrap .i64 ((IntKind.wrap .i64 ((IntKind.wrap .i64 (k1_1 + 1)) + 1)) + 1)) + 1)) + 1)) + 1)) + 1)) + 1))) else
    (go (IntKind.wrap .i64 ((IntKind.wrap .i64 ((IntKind.wrap .i64 ((IntKind.wrap .i64 ((IntKind.wrap .i64 ((IntKind.wrap .i64 ((IntKind.wrap .i64 ((IntKind.wrap .i64 ((IntKind.wrap .i64 (k1_1 + 1)) + 1)) + 1)) + 1)) + 1)) + 1)) + 1)) + 1)) + 1)) (IntKind.wrap .i64 (i5_2 + 1))))))))))))))))))))) else
    (k1 k1_1))
def F_laws_heldEntryS (fu : Nat) (a_0 : (Sl S_impl_Entry)) (k_1 : Int) : Option (Int) :=
  (L (fun w0 go0 => F_laws_heldEntryS_B0 fu a_0 (fun z423 => (some (-1))) (fun z424 => (some z424)) w0.1 w0.2 (fun q0 q1 => go0 (q0, q1))) fu ((k_1, 0) : Int × Int))
def pc_b35 (fu : Nat) : Pc RT den := ⟨pcf0, fun _ => false, fun _ => false, pcd0, pcd0, pcx0⟩
def msk_b35 (b : Nat) : List Nat := match b with | 0 => (2 :: 3 :: 4 :: (rg 6 94 [])) | 100000 => (0 :: 2 :: 3 :: (rg 5 95 [])) | _ => []
def ps_b35_0 : List (Pat RT) := (.flat (.rs .impl_Entry) :: .flat (.int .i64) :: .flat .q :: .flat .q :: .flat .q :: .flat (.int .i64) :: (fq 94 []))
def os_b35_0 : List (OP RT) := []
def conv_b35_0 (r : Raw den ps_b35_0 os_b35_0) : ((Sl S_impl_Entry)) × (Int × Int) := (r.1.1, (r.1.2.1, (e5 r.1).1))
def back_b35_0 (c : (Sl S_impl_Entry)) (w : Int × Int) : St RT den := ⟨((.rs c.z .impl_Entry c.n c.f) :: (.int .i64 w.1) :: .q :: .q :: .q :: (.int .i64 w.2) :: (qs 94 [])), []⟩
def Bk_b35_0 {ρ : Type} (fu : Nat) (c : (Sl S_impl_Entry)) (k : Ex → St RT den → Option ρ) (w : Int × Int) (go : (Int × Int) → Option ρ) : Option ρ := F_laws_heldEntryS_B0 fu c (fun a0 => k .ret ⟨(.q :: (.int .i64 a0) :: .q :: .q :: (.int .i64 (-1)) :: (qs 95 [])), []⟩) (fun a0 => k (.exit 0) ⟨(.q :: (.int .i64 a0) :: (qs 98 [])), []⟩) w.1 w.2 (fun q0 q1 => go (q0, q1))
def lp_b35 (fu : Nat) : Lp RT den (Int) := ⟨fun b s k => match b with | 0 => handle ps_b35_0 os_b35_0 conv_b35_0 (Bk_b35_0 fu) fu s k | _ => none, inl0⟩
theorem ev_b35 (fu : Nat) (a_0 : (Sl S_impl_Entry)) (k_1 : Int) : evFun E (pc_b35 fu) msk_b35 (lp_b35 fu) out_i64 79 [(.rs a_0.z .impl_Entry a_0.n a_0.f), (.int .i64 k_1)] = F_laws_heldEntryS fu a_0 k_1 := by kernel_rfl
noncomputable def body_b35 : Code := Try.f79.body.getD .skip
noncomputable def lc_b35_0 : Code := ((loops 0 body_b35).getD 0 (0, .skip)).2
theorem round_b35_0 (fu : Nat) (it : St RT den → Option (Int)) (k : Ex → St RT den → Option (Int)) c w : evCode E (pc_b35 fu) msk_b35 (lp_b35 fu) 0 lc_b35_0 (back_b35_0 c w) (after (msk_b35 0) (msk_b35 100000) 0 it k) = Bk_b35_0 fu c k w (fun w => it (back_b35_0 c w)) := by kernel_rfl
theorem lpok_b35_0 (fu : Nat) : ∀ s k r, (lp_b35 fu).lp 0 s k = some r → ∃ fuel, iter (msk_b35 0) (msk_b35 100000) s.objs.length (evCode E (pc_b35 fu) msk_b35 (lp_b35 fu) 0 lc_b35_0) fuel s k = some r :=
  handle_ok (ps := ps_b35_0) (os := os_b35_0) (conv := conv_b35_0) (B := Bk_b35_0 fu) (fu := fu) back_b35_0 (fun raw => by kernel_rfl) 0 (fun c w => by kernel_rfl) (round_b35_0 fu)
theorem lpok_b35 (fu : Nat) : LpOk E (pc_b35 fu) 0 msk_b35 (lp_b35 fu) (loops 0 body_b35) := lp_nil (loop_all 1 (by kernel_rfl) fun i hi => match i, hi with
  | 0, _ => by
    have h : (loops 0 body_b35).getD 0 (0, .skip) = (0, lc_b35_0) := by kernel_rfl
    rw [h]; exact lpok_b35_0 fu
  | i + 1, hi => absurd hi (by omega)) (by kernel_rfl)
def S_b35 (fu : Nat) (xs : List (D RT den)) : Option (Out RT den) := match xs with | [.rs za0_0 .impl_Entry na0_0 fa0_0, .int .i64 a1_0] => some ⟨Int, F_laws_heldEntryS fu (⟨za0_0, na0_0, fa0_0⟩ : (Sl S_impl_Entry)) a1_0, enc_i64, fun _ => true⟩ | _ => none
theorem goodv_b35 (fu : Nat) (a_0 : (Sl S_impl_Entry)) (k_1 : Int) (y : Int) (hy : F_laws_heldEntryS fu a_0 k_1 = some y) : Good E Try.prog 79 [(.rs a_0.z .impl_Entry a_0.n a_0.f), (.int .i64 k_1)] (enc_i64 y) :=
  fun_good E_ok (pc_good (pc := pc_b35 fu) hpc0 hpx0) (fn := Try.f79) (c := body_b35) (out := out_i64) (y := y) (by kernel_rfl) (by kernel_rfl) (by kernel_rfl) (lpok_b35 fu) (fun d hd => out_i64_enc d _ hd) ((ev_b35 fu a_0 k_1).trans hy)
theorem good_b35 (fu : Nat) : ∀ xs o, S_b35 fu xs = some o → ∀ y, o.x = some y → Good E Try.prog 79 xs (o.g y) := by
  intro xs o h y hy
  unfold S_b35 at h
  split at h
  · rename_i za0_0 na0_0 fa0_0 a1_0
    cases h
    exact goodv_b35 fu (⟨za0_0, na0_0, fa0_0⟩ : (Sl S_impl_Entry)) a1_0 y hy
  · cases h

/-! laws.heldInt64S -/
def F_laws_heldInt64S_B0 {ρ : Type} (fu : Nat) (a0_0 : (Sl Int)) (k0 : Int → Option ρ) (k1 : Int → Option ρ) (k1_1 : Int) (i5_2 : Int) (go : Int → Int → Option ρ) : Option ρ :=
  (bif (decide (i5_2 < ((a0_0.n : Nat) : Int))) then ((bif (decide (0 ≤ i5_2) && decide ((Int.toNat i5_2) < a0_0.n)) then some () else none : Option Unit).bind fun _ => (bif ((a0_0.f (Int.toNat i5_2)) != k1_1) then
    (k0 k1_1) else (go (IntKind.wrap .i64 (k1_1 + 1)) (IntKind.wrap .i64 (i5_2 + 1))))) else (k1 k1_1))
def F_laws_heldInt64S (fu : Nat) (a_0 : (Sl Int)) (k_1 : Int) : Option (Int) :=
  (L (fun w0 go0 => F_laws_heldInt64S_B0 fu a_0 (fun z425 => (some (-1))) (fun z426 => (some z426)) w0.1 w0.2 (fun q0 q1 => go0 (q0, q1))) fu ((k_1, 0) : Int × Int))
def pc_b36 (fu : Nat) : Pc RT den := ⟨pcf0, fun _ => false, fun _ => false, pcd0, pcd0, pcx0⟩
def msk_b36 (b : Nat) : List Nat := match b with | 0 => (2 :: 3 :: 4 :: (rg 6 15 [])) | 100000 => (0 :: 2 :: 3 :: (rg 5 16 [])) | _ => []
def ps_b36_0 : List (Pat RT) := (.flat (.rs .i64) :: .flat (.int .i64) :: .flat .q :: .flat .q :: .flat .q :: .flat (.int .i64) :: (fq 15 []))
def os_b36_0 : List (OP RT) := []
def conv_b36_0 (r : Raw den ps_b36_0 os_b36_0) : ((Sl Int)) × (Int × Int) := (r.1.1, (r.1.2.1, (e5 r.1).1))
def back_b36_0 (c : (Sl Int)) (w : Int × Int) : St RT den := ⟨((.rs c.z .i64 c.n c.f) :: (.int .i64 w.1) :: .q :: .q :: .q :: (.int .i64 w.2) :: (qs 15 [])), []⟩
def Bk_b36_0 {ρ : Type} (fu : Nat) (c : (Sl Int)) (k : Ex → St RT den → Option ρ) (w : Int × Int) (go : (Int × Int) → Option ρ) : Option ρ := F_laws_heldInt64S_B0 fu c (fun a0 => k .ret ⟨(.q :: (.int .i64 a0) :: .q :: .q :: (.int .i64 (-1)) :: (qs 16 [])), []⟩) (fun a0 => k (.exit 0) ⟨(.q :: (.int .i64 a0) :: (qs 19 [])), []⟩) w.1 w.2 (fun q0 q1 => go (q0, q1))
def lp_b36 (fu : Nat) : Lp RT den (Int) := ⟨fun b s k => match b with | 0 => handle ps_b36_0 os_b36_0 conv_b36_0 (Bk_b36_0 fu) fu s k | _ => none, inl0⟩
theorem ev_b36 (fu : Nat) (a_0 : (Sl Int)) (k_1 : Int) : evFun E (pc_b36 fu) msk_b36 (lp_b36 fu) out_i64 80 [(.rs a_0.z .i64 a_0.n a_0.f), (.int .i64 k_1)] = F_laws_heldInt64S fu a_0 k_1 := by kernel_rfl
noncomputable def body_b36 : Code := Try.f80.body.getD .skip
noncomputable def lc_b36_0 : Code := ((loops 0 body_b36).getD 0 (0, .skip)).2
theorem round_b36_0 (fu : Nat) (it : St RT den → Option (Int)) (k : Ex → St RT den → Option (Int)) c w : evCode E (pc_b36 fu) msk_b36 (lp_b36 fu) 0 lc_b36_0 (back_b36_0 c w) (after (msk_b36 0) (msk_b36 100000) 0 it k) = Bk_b36_0 fu c k w (fun w => it (back_b36_0 c w)) := by kernel_rfl
theorem lpok_b36_0 (fu : Nat) : ∀ s k r, (lp_b36 fu).lp 0 s k = some r → ∃ fuel, iter (msk_b36 0) (msk_b36 100000) s.objs.length (evCode E (pc_b36 fu) msk_b36 (lp_b36 fu) 0 lc_b36_0) fuel s k = some r :=
  handle_ok (ps := ps_b36_0) (os := os_b36_0) (conv := conv_b36_0) (B := Bk_b36_0 fu) (fu := fu) back_b36_0 (fun raw => by kernel_rfl) 0 (fun c w => by kernel_rfl) (round_b36_0 fu)
theorem lpok_b36 (fu : Nat) : LpOk E (pc_b36 fu) 0 msk_b36 (lp_b36 fu) (loops 0 body_b36) := lp_nil (loop_all 1 (by kernel_rfl) fun i hi => match i, hi with
  | 0, _ => by
    have h : (loops 0 body_b36).getD 0 (0, .skip) = (0, lc_b36_0) := by kernel_rfl
    rw [h]; exact lpok_b36_0 fu
  | i + 1, hi => absurd hi (by omega)) (by kernel_rfl)
def S_b36 (fu : Nat) (xs : List (D RT den)) : Option (Out RT den) := match xs with | [.rs za0_0 .i64 na0_0 fa0_0, .int .i64 a1_0] => some ⟨Int, F_laws_heldInt64S fu (⟨za0_0, na0_0, fa0_0⟩ : (Sl Int)) a1_0, enc_i64, fun _ => true⟩ | _ => none
theorem goodv_b36 (fu : Nat) (a_0 : (Sl Int)) (k_1 : Int) (y : Int) (hy : F_laws_heldInt64S fu a_0 k_1 = some y) : Good E Try.prog 80 [(.rs a_0.z .i64 a_0.n a_0.f), (.int .i64 k_1)] (enc_i64 y) :=
  fun_good E_ok (pc_good (pc := pc_b36 fu) hpc0 hpx0) (fn := Try.f80) (c := body_b36) (out := out_i64) (y := y) (by kernel_rfl) (by kernel_rfl) (by kernel_rfl) (lpok_b36 fu) (fun d hd => out_i64_enc d _ hd) ((ev_b36 fu a_0 k_1).trans hy)
theorem good_b36 (fu : Nat) : ∀ xs o, S_b36 fu xs = some o → ∀ y, o.x = some y → Good E Try.prog 80 xs (o.g y) := by
  intro xs o h y hy
  unfold S_b36 at h
  split at h
  · rename_i za0_0 na0_0 fa0_0 a1_0
    cases h
    exact goodv_b36 fu (⟨za0_0, na0_0, fa0_0⟩ : (Sl Int)) a1_0 y hy
  · cases h

/-! laws.heldNode -/
def F_laws_heldNode (fu : Nat) (a_0 : S_impl_Node) (k_1 : Int) : Option (Int) :=
  ((F_laws_heldEntryS fu a_0.Log k_1).bind fun y419 => (bif (decide (y419 < 0)) then (some (-1)) else ((F_laws_heldInt64S fu a_0.Votes y419).bind fun y420 => (bif (decide (y420 < 0)) then
    (some (-1)) else ((F_laws_heldInt64S fu a_0.Next y420).bind fun y421 => (bif (decide (y421 < 0)) then (some (-1)) else ((F_laws_heldInt64S fu a_0.Match y421).bind fun y422 =>
    (bif (decide (y422 < 0)) then (some (-1)) else (some y422)))))))))
def pcf_b37 (fu : Nat) (f : Nat) (xs : List (D RT den)) : Option (Out RT den) := match f with | 79 => S_b35 fu xs | 80 => S_b36 fu xs | _ => none
def pc_b37 (fu : Nat) : Pc RT den := ⟨pcf_b37 fu, fun _ => false, fun _ => false, pcd0, pcd0, pcx0⟩
def msk_b37 (b : Nat) : List Nat := []
def lp_b37 (fu : Nat) : Lp RT den (Int) := ⟨fun b s k => none, inl0⟩
theorem ev_b37 (fu : Nat) (a_0 : S_impl_Node) (k_1 : Int) : evFun E (pc_b37 fu) msk_b37 (lp_b37 fu) out_i64 44 [(.agg [(.int .i64 a_0.Id), (.int .i64 a_0.Peers), (.int .i64 a_0.Term), (.int .i64 a_0.Voted), (.rs a_0.Log.z .impl_Entry a_0.Log.n a_0.Log.f), (.int .i64 a_0.Role), (.int .i64 a_0.Commit), (.rs a_0.Votes.z .i64 a_0.Votes.n a_0.Votes.f), (.rs a_0.Next.z .i64 a_0.Next.n a_0.Next.f), (.rs a_0.Match.z .i64 a_0.Match.n a_0.Match.f)]), (.int .i64 k_1)] = F_laws_heldNode fu a_0 k_1 := by kernel_rfl
noncomputable def body_b37 : Code := Try.f44.body.getD .skip
theorem lpok_b37 (fu : Nat) : LpOk E (pc_b37 fu) 0 msk_b37 (lp_b37 fu) (loops 0 body_b37) := lp_nil (loop_nil (by kernel_rfl)) (by kernel_rfl)
def S_b37 (fu : Nat) (xs : List (D RT den)) : Option (Out RT den) := match xs with | [.agg [.int .i64 a0_1, .int .i64 a0_2, .int .i64 a0_3, .int .i64 a0_4, .rs za0_5 .impl_Entry na0_5 fa0_5, .int .i64 a0_6, .int .i64 a0_7, .rs za0_8 .i64 na0_8 fa0_8, .rs za0_9 .i64 na0_9 fa0_9, .rs za0_10 .i64 na0_10 fa0_10], .int .i64 a1_0] => some ⟨Int, F_laws_heldNode fu (⟨a0_1, a0_2, a0_3, a0_4, (⟨za0_5, na0_5, fa0_5⟩ : (Sl S_impl_Entry)), a0_6, a0_7, (⟨za0_8, na0_8, fa0_8⟩ : (Sl Int)), (⟨za0_9, na0_9, fa0_9⟩ : (Sl Int)), (⟨za0_10, na0_10, fa0_10⟩ : (Sl Int))⟩ : S_impl_Node) a1_0, enc_i64, fun _ => true⟩ | _ => none
theorem hpc_b37 (fu : Nat) : ∀ f xs o, pcf_b37 fu f xs = some o → ∀ y, o.x = some y → Good E Try.prog f xs (o.g y) := by
  intro f xs o h
  unfold pcf_b37 at h
  split at h
  · exact good_b35 fu xs o h
  · exact good_b36 fu xs o h
  · cases h
theorem goodv_b37 (fu : Nat) (a_0 : S_impl_Node) (k_1 : Int) (y : Int) (hy : F_laws_heldNode fu a_0 k_1 = some y) : Good E Try.prog 44 [(.agg [(.int .i64 a_0.Id), (.int .i64 a_0.Peers), (.int .i64 a_0.Term), (.int .i64 a_0.Voted), (.rs a_0.Log.z .impl_Entry a_0.Log.n a_0.Log.f), (.int .i64 a_0.Role), (.int .i64 a_0.Commit), (.rs a_0.Votes.z .i64 a_0.Votes.n a_0.Votes.f), (.rs a_0.Next.z .i64 a_0.Next.n a_0.Next.f), (.rs a_0.Match.z .i64 a_0.Match.n a_0.Match.f)]), (.int .i64 k_1)] (enc_i64 y) :=
  fun_good E_ok (pc_good (pc := pc_b37 fu) (hpc_b37 fu) hpx0) (fn := Try.f44) (c := body_b37) (out := out_i64) (y := y) (by kernel_rfl) (by kernel_rfl) (by kernel_rfl) (lpok_b37 fu) (fun d hd => out_i64_enc d _ hd) ((ev_b37 fu a_0 k_1).trans hy)
theorem good_b37 (fu : Nat) : ∀ xs o, S_b37 fu xs = some o → ∀ y, o.x = some y → Good E Try.prog 44 xs (o.g y) := by
  intro xs o h y hy
  unfold S_b37 at h
  split at h
  · rename_i a0_1 a0_2 a0_3 a0_4 za0_5 na0_5 fa0_5 a0_6 a0_7 za0_8 na0_8 fa0_8 za0_9 na0_9 fa0_9 za0_10 na0_10 fa0_10 a1_0
    cases h
    exact goodv_b37 fu (⟨a0_1, a0_2, a0_3, a0_4, (⟨za0_5, na0_5, fa0_5⟩ : (Sl S_impl_Entry)), a0_6, a0_7, (⟨za0_8, na0_8, fa0_8⟩ : (Sl Int)), (⟨za0_9, na0_9, fa0_9⟩ : (Sl Int)), (⟨za0_10, na0_10, fa0_10⟩ : (Sl Int))⟩ : S_impl_Node) a1_0 y hy
  · cases h

/-! laws.heldMailS -/
def F_laws_heldMailS_B0 {ρ : Type} (fu : Nat) (a0_0 : (Sl S_impl_Mail)) (k0 : Int → Option ρ) (k1 : Int → Option ρ) (k1_1 : Int) (i5_2 : Int) (go : Int → Int → Option ρ) : Option ρ :=
  (bif (decide (i5_2 < ((a0_0.n : Nat) : Int))) then ((bif (decide (0 ≤ i5_2) && decide ((Int.toNat i5_2) < a0_0.n)) then some () else none : Option Unit).bind fun _ => (bif ((a0_0.f (Int.toNat i5_2)).Kind != k1_1) then
    (k0 k1_1) else ((bif (decide (0 ≤ i5_2) && decide ((Int.toNat i5_2) < a0_0.n)) then some () else none : Option Unit).bind fun _ => (bif ((a0_0.f (Int.toNat i5_2)).From != (IntKind.wrap .i64 (k1_1 + 1))) then
    (k0 (IntKind.wrap .i64 (k1_1 + 1))) else ((bif (decide (0 ≤ i5_2) && decide ((Int.toNat i5_2) < a0_0.n)) then some () else none : Option Unit).bind fun _ => (bif ((a0_0.f (Int.toNat i5_2)).To != (IntKind.wrap .i64 ((IntKind.wrap .i64 (k1_1 + 1)) + 1))) then
    (k0 (IntKind.wrap .i64 ((IntKind.wrap .i64 (k1_1 + 1)) + 1))) else ((bif (decide (0 ≤ i5_2) && decide ((Int.toNat i5_2) < a0_0.n)) then some () else none : Option Unit).bind fun _ =>
    (bif ((a0_0.f (Int.toNat i5_2)).Term != (IntKind.wrap .i64 ((IntKind.wrap .i64 ((IntKind.wrap .i64 (k1_1 + 1)) + 1)) + 1))) then (k0 (IntKind.wrap .i64 ((IntKind.wrap .i64 ((IntKind.wrap .i64 (k1_1 + 1)) + 1)) + 1))) else
    ((bif (decide (0 ≤ i5_2) && decide ((Int.toNat i5_2) < a0_0.n)) then some () else none : Option Unit).bind fun _ => (bif ((a0_0.f (Int.toNat i5_2)).Index != (IntKind.wrap .i64 ((IntKind.wrap .i64 ((IntKind.wrap .i64 ((IntKind.wrap .i64 (k1_1 + 1)) + 1)) + 1)) + 1))) then
    (k0 (IntKind.wrap .i64 ((IntKind.wrap .i64 ((IntKind.wrap .i64 ((IntKind.wrap .i64 (k1_1 + 1)) + 1)) + 1)) + 1))) else ((bif (decide (0 ≤ i5_2) && decide ((Int.toNat i5_2) < a0_0.n)) then
    some () else none : Option Unit).bind fun _ => (bif ((a0_0.f (Int.toNat i5_2)).Last != (IntKind.wrap .i64 ((IntKind.wrap .i64 ((IntKind.wrap .i64 ((IntKind.wrap .i64 ((IntKind.wrap .i64 (k1_1 + 1)) + 1)) + 1)) + 1)) + 1))) then
    (k0 (IntKind.wrap .i64 ((IntKind.wrap .i64 ((IntKind.wrap .i64 ((IntKind.wrap .i64 ((IntKind.wrap .i64 (k1_1 + 1)) + 1)) + 1)) + 1)) + 1))) else ((bif (decide (0 ≤ i5_2) &&
    decide ((Int.toNat i5_2) < a0_0.n)) then some () else none : Option Unit).bind fun _ => (bif ((a0_0.f (Int.toNat i5_2)).Commit != (IntKind.wrap .i64 ((IntKind.wrap .i64 ((IntKind.wrap .i64 ((IntKind.wrap .i64 ((IntKind.wrap .i64 ((IntKind.wrap .i64 (k1_1 + 1)) + 1)) + 1)) + 1)) + 1)) + 1))) then
    (k0 (IntKind.wrap .i64 ((IntKind.wrap .i64 ((IntKind.wrap .i64 ((IntKind.wrap .i64 ((IntKind.wrap .i64 ((IntKind.wrap .i64 (k1_1 + 1)) + 1)) + 1)) + 1)) + 1)) + 1))) else ((bif (decide (0 ≤ i5_2) &&
    decide ((Int.toNat i5_2) < a0_0.n)) then some () else none : Option Unit).bind fun _ => (bif (!((a0_0.f (Int.toNat i5_2)).Ok == ((Int.tmod (IntKind.wrap .i64 ((IntKind.wrap .i64 ((IntKind.wrap .i64 ((IntKind.wrap .i64 ((IntKind.wrap .i64 ((IntKind.wrap .i64 ((IntKind.wrap .i64 (k1_1 + 1)) + 1)) + 1)) + 1)) + 1)) + 1)) + 1)) 3) == 0))) then
    (k0 (IntKind.wrap .i64 ((IntKind.wrap .i64 ((IntKind.wrap .i64 ((IntKind.wrap .i64 ((IntKind.wrap .i64 ((IntKind.wrap .i64 ((IntKind.wrap .i64 (k1_1 + 1)) + 1)) + 1)) + 1)) + 1)) + 1)) + 1))) else
    ((bif (decide (0 ≤ i5_2) && decide ((Int.toNat i5_2) < a0_0.n)) then some () else none : Option Unit).bind fun _ => ((F_laws_heldEntryS fu (a0_0.f (Int.toNat i5_2)).Entries (IntKind.wrap .i64 ((IntKind.wrap .i64 ((IntKind.wrap .i64 ((IntKind.wrap .i64 ((IntKind.wrap .i64 ((IntKind.wrap .i64 ((IntKind.wrap .i64 ((IntKind.wrap .i64 (k1_1 + 1)) + 1)) + 1)) + 1)) + 1)) + 1)) + 1)) + 1))).bind fun y427 =>
    (bif (decide (y427 < 0)) then (k0 y427) else (go y427 (IntKind.wrap .i64 (i5_2 + 1)))))))))))))))))))))) else (k1 k1_1))
def F_laws_heldMailS (fu : Nat) (a_0 : (Sl S_impl_Mail)) (k_1 : Int) : Option (Int) :=
  (L (fun w0 go0 => F_laws_heldMailS_B0 fu a_0 (fun z428 => (some (-1))) (fun z429 => (some z429)) w0.1 w0.2 (fun q0 q1 => go0 (q0, q1))) fu ((k_1, 0) : Int × Int))
def pcf_b38 (fu : Nat) (f : Nat) (xs : List (D RT den)) : Option (Out RT den) := match f with | 79 => S_b35 fu xs | _ => none
def pc_b38 (fu : Nat) : Pc RT den := ⟨pcf_b38 fu, fun _ => false, fun _ => false, pcd0, pcd0, pcx0⟩
def msk_b38 (b : Nat) : List Nat := match b with | 0 => (2 :: 3 :: 4 :: (rg 6 90 [])) | 100000 => (0 :: 2 :: 3 :: (rg 5 91 [])) | _ => []
def ps_b38_0 : List (Pat RT) := (.flat (.rs .impl_Mail) :: .flat (.int .i64) :: .flat .q :: .flat .q :: .flat .q :: .flat (.int .i64) :: (fq 90 []))
def os_b38_0 : List (OP RT) := []
def conv_b38_0 (r : Raw den ps_b38_0 os_b38_0) : ((Sl S_impl_Mail)) × (Int × Int) := (r.1.1, (r.1.2.1, (e5 r.1).1))
def back_b38_0 (c : (Sl S_impl_Mail)) (w : Int × Int) : St RT den := ⟨((.rs c.z .impl_Mail c.n c.f) :: (.int .i64 w.1) :: .q :: .q :: .q :: (.int .i64 w.2) :: (qs 90 [])), []⟩
def Bk_b38_0 {ρ : Type} (fu : Nat) (c : (Sl S_impl_Mail)) (k : Ex → St RT den → Option ρ) (w : Int × Int) (go : (Int × Int) → Option ρ) : Option ρ := F_laws_heldMailS_B0 fu c (fun a0 => k .ret ⟨(.q :: (.int .i64 a0) :: .q :: .q :: (.int .i64 (-1)) :: (qs 91 [])), []⟩) (fun a0 => k (.exit 0) ⟨(.q :: (.int .i64 a0) :: (qs 94 [])), []⟩) w.1 w.2 (fun q0 q1 => go (q0, q1))
def lp_b38 (fu : Nat) : Lp RT den (Int) := ⟨fun b s k => match b with | 0 => handle ps_b38_0 os_b38_0 conv_b38_0 (Bk_b38_0 fu) fu s k | _ => none, inl0⟩
theorem ev_b38 (fu : Nat) (a_0 : (Sl S_impl_Mail)) (k_1 : Int) : evFun E (pc_b38 fu) msk_b38 (lp_b38 fu) out_i64 45 [(.rs a_0.z .impl_Mail a_0.n a_0.f), (.int .i64 k_1)] = F_laws_heldMailS fu a_0 k_1 := by kernel_rfl
noncomputable def body_b38 : Code := Try.f45.body.getD .skip
noncomputable def lc_b38_0 : Code := ((loops 0 body_b38).getD 0 (0, .skip)).2
theorem round_b38_0 (fu : Nat) (it : St RT den → Option (Int)) (k : Ex → St RT den → Option (Int)) c w : evCode E (pc_b38 fu) msk_b38 (lp_b38 fu) 0 lc_b38_0 (back_b38_0 c w) (after (msk_b38 0) (msk_b38 100000) 0 it k) = Bk_b38_0 fu c k w (fun w => it (back_b38_0 c w)) := by kernel_rfl
theorem lpok_b38_0 (fu : Nat) : ∀ s k r, (lp_b38 fu).lp 0 s k = some r → ∃ fuel, iter (msk_b38 0) (msk_b38 100000) s.objs.length (evCode E (pc_b38 fu) msk_b38 (lp_b38 fu) 0 lc_b38_0) fuel s k = some r :=
  handle_ok (ps := ps_b38_0) (os := os_b38_0) (conv := conv_b38_0) (B := Bk_b38_0 fu) (fu := fu) back_b38_0 (fun raw => by kernel_rfl) 0 (fun c w => by kernel_rfl) (round_b38_0 fu)
theorem lpok_b38 (fu : Nat) : LpOk E (pc_b38 fu) 0 msk_b38 (lp_b38 fu) (loops 0 body_b38) := lp_nil (loop_all 1 (by kernel_rfl) fun i hi => match i, hi with
  | 0, _ => by
    have h : (loops 0 body_b38).getD 0 (0, .skip) = (0, lc_b38_0) := by kernel_rfl
    rw [h]; exact lpok_b38_0 fu
  | i + 1, hi => absurd hi (by omega)) (by kernel_rfl)
def S_b38 (fu : Nat) (xs : List (D RT den)) : Option (Out RT den) := match xs with | [.rs za0_0 .impl_Mail na0_0 fa0_0, .int .i64 a1_0] => some ⟨Int, F_laws_heldMailS fu (⟨za0_0, na0_0, fa0_0⟩ : (Sl S_impl_Mail)) a1_0, enc_i64, fun _ => true⟩ | _ => none
theorem hpc_b38 (fu : Nat) : ∀ f xs o, pcf_b38 fu f xs = some o → ∀ y, o.x = some y → Good E Try.prog f xs (o.g y) := by
  intro f xs o h
  unfold pcf_b38 at h
  split at h
  · exact good_b35 fu xs o h
  · cases h
theorem goodv_b38 (fu : Nat) (a_0 : (Sl S_impl_Mail)) (k_1 : Int) (y : Int) (hy : F_laws_heldMailS fu a_0 k_1 = some y) : Good E Try.prog 45 [(.rs a_0.z .impl_Mail a_0.n a_0.f), (.int .i64 k_1)] (enc_i64 y) :=
  fun_good E_ok (pc_good (pc := pc_b38 fu) (hpc_b38 fu) hpx0) (fn := Try.f45) (c := body_b38) (out := out_i64) (y := y) (by kernel_rfl) (by kernel_rfl) (by kernel_rfl) (lpok_b38 fu) (fun d hd => out_i64_enc d _ hd) ((ev_b38 fu a_0 k_1).trans hy)
theorem good_b38 (fu : Nat) : ∀ xs o, S_b38 fu xs = some o → ∀ y, o.x = some y → Good E Try.prog 45 xs (o.g y) := by
  intro xs o h y hy
  unfold S_b38 at h
  split at h
  · rename_i za0_0 na0_0 fa0_0 a1_0
    cases h
    exact goodv_b38 fu (⟨za0_0, na0_0, fa0_0⟩ : (Sl S_impl_Mail)) a1_0 y hy
  · cases h

/-! laws.heldNodeResult -/
def F_laws_heldNodeResult (fu : Nat) (a_0 : S_impl_NodeResult) (k_1 : Int) : Option (Int) :=
  ((F_laws_heldNode fu a_0.Node k_1).bind fun y417 => (bif (decide (y417 < 0)) then (some (-1)) else ((F_laws_heldMailS fu a_0.Send y417).bind fun y418 => (bif (decide (y418 < 0)) then
    (some (-1)) else (some y418)))))
def pcf_b39 (fu : Nat) (f : Nat) (xs : List (D RT den)) : Option (Out RT den) := match f with | 44 => S_b37 fu xs | 45 => S_b38 fu xs | _ => none
def pc_b39 (fu : Nat) : Pc RT den := ⟨pcf_b39 fu, fun _ => false, fun _ => false, pcd0, pcd0, pcx0⟩
def msk_b39 (b : Nat) : List Nat := []
def lp_b39 (fu : Nat) : Lp RT den (Int) := ⟨fun b s k => none, inl0⟩
theorem ev_b39 (fu : Nat) (a_0 : S_impl_NodeResult) (k_1 : Int) : evFun E (pc_b39 fu) msk_b39 (lp_b39 fu) out_i64 14 [(.agg [(.int .i64 a_0.Code), (.int .i64 a_0.Node.Id), (.int .i64 a_0.Node.Peers), (.int .i64 a_0.Node.Term), (.int .i64 a_0.Node.Voted), (.rs a_0.Node.Log.z .impl_Entry a_0.Node.Log.n a_0.Node.Log.f), (.int .i64 a_0.Node.Role), (.int .i64 a_0.Node.Commit), (.rs a_0.Node.Votes.z .i64 a_0.Node.Votes.n a_0.Node.Votes.f), (.rs a_0.Node.Next.z .i64 a_0.Node.Next.n a_0.Node.Next.f), (.rs a_0.Node.Match.z .i64 a_0.Node.Match.n a_0.Node.Match.f), (.rs a_0.Send.z .impl_Mail a_0.Send.n a_0.Send.f)]), (.int .i64 k_1)] = F_laws_heldNodeResult fu a_0 k_1 := by kernel_rfl
noncomputable def body_b39 : Code := Try.f14.body.getD .skip
theorem lpok_b39 (fu : Nat) : LpOk E (pc_b39 fu) 0 msk_b39 (lp_b39 fu) (loops 0 body_b39) := lp_nil (loop_nil (by kernel_rfl)) (by kernel_rfl)
def S_b39 (fu : Nat) (xs : List (D RT den)) : Option (Out RT den) := match xs with | [.agg [.int .i64 a0_1, .int .i64 a0_3, .int .i64 a0_4, .int .i64 a0_5, .int .i64 a0_6, .rs za0_7 .impl_Entry na0_7 fa0_7, .int .i64 a0_8, .int .i64 a0_9, .rs za0_10 .i64 na0_10 fa0_10, .rs za0_11 .i64 na0_11 fa0_11, .rs za0_12 .i64 na0_12 fa0_12, .rs za0_13 .impl_Mail na0_13 fa0_13], .int .i64 a1_0] => some ⟨Int, F_laws_heldNodeResult fu (⟨a0_1, (⟨a0_3, a0_4, a0_5, a0_6, (⟨za0_7, na0_7, fa0_7⟩ : (Sl S_impl_Entry)), a0_8, a0_9, (⟨za0_10, na0_10, fa0_10⟩ : (Sl Int)), (⟨za0_11, na0_11, fa0_11⟩ : (Sl Int)), (⟨za0_12, na0_12, fa0_12⟩ : (Sl Int))⟩ : S_impl_Node), (⟨za0_13, na0_13, fa0_13⟩ : (Sl S_impl_Mail))⟩ : S_impl_NodeResult) a1_0, enc_i64, fun _ => true⟩ | _ => none
theorem hpc_b39 (fu : Nat) : ∀ f xs o, pcf_b39 fu f xs = some o → ∀ y, o.x = some y → Good E Try.prog f xs (o.g y) := by
  intro f xs o h
  unfold pcf_b39 at h
  split at h
  · exact good_b37 fu xs o h
  · exact good_b38 fu xs o h
  · cases h
theorem goodv_b39 (fu : Nat) (a_0 : S_impl_NodeResult) (k_1 : Int) (y : Int) (hy : F_laws_heldNodeResult fu a_0 k_1 = some y) : Good E Try.prog 14 [(.agg [(.int .i64 a_0.Code), (.int .i64 a_0.Node.Id), (.int .i64 a_0.Node.Peers), (.int .i64 a_0.Node.Term), (.int .i64 a_0.Node.Voted), (.rs a_0.Node.Log.z .impl_Entry a_0.Node.Log.n a_0.Node.Log.f), (.int .i64 a_0.Node.Role), (.int .i64 a_0.Node.Commit), (.rs a_0.Node.Votes.z .i64 a_0.Node.Votes.n a_0.Node.Votes.f), (.rs a_0.Node.Next.z .i64 a_0.Node.Next.n a_0.Node.Next.f), (.rs a_0.Node.Match.z .i64 a_0.Node.Match.n a_0.Node.Match.f), (.rs a_0.Send.z .impl_Mail a_0.Send.n a_0.Send.f)]), (.int .i64 k_1)] (enc_i64 y) :=
  fun_good E_ok (pc_good (pc := pc_b39 fu) (hpc_b39 fu) hpx0) (fn := Try.f14) (c := body_b39) (out := out_i64) (y := y) (by kernel_rfl) (by kernel_rfl) (by kernel_rfl) (lpok_b39 fu) (fun d hd => out_i64_enc d _ hd) ((ev_b39 fu a_0 k_1).trans hy)
theorem good_b39 (fu : Nat) : ∀ xs o, S_b39 fu xs = some o → ∀ y, o.x = some y → Good E Try.prog 14 xs (o.g y) := by
  intro xs o h y hy
  unfold S_b39 at h
  split at h
  · rename_i a0_1 a0_3 a0_4 a0_5 a0_6 za0_7 na0_7 fa0_7 a0_8 a0_9 za0_10 na0_10 fa0_10 za0_11 na0_11 fa0_11 za0_12 na0_12 fa0_12 za0_13 na0_13 fa0_13 a1_0
    cases h
    exact goodv_b39 fu (⟨a0_1, (⟨a0_3, a0_4, a0_5, a0_6, (⟨za0_7, na0_7, fa0_7⟩ : (Sl S_impl_Entry)), a0_8, a0_9, (⟨za0_10, na0_10, fa0_10⟩ : (Sl Int)), (⟨za0_11, na0_11, fa0_11⟩ : (Sl Int)), (⟨za0_12, na0_12, fa0_12⟩ : (Sl Int))⟩ : S_impl_Node), (⟨za0_13, na0_13, fa0_13⟩ : (Sl S_impl_Mail))⟩ : S_impl_NodeResult) a1_0 y hy
  · cases h

/-! laws.FnExactTimeoutNode -/
def F_laws_FnExactTimeoutNode (fu : Nat) (aN_0 : S_laws_Node) : Option (Bool) :=
  ((F_laws_szNode fu aN_0 1048576).bind fun y1 => (bif (decide (y1 < 0)) then (some true) else ((F_laws_toNode_H fu aN_0).bind fun y17 => ((F_spec_TimeoutNode_U fu (⟨y17.Id,
    y17.Peers, y17.Term, y17.Voted, (⟨none, y17.Log.n, y17.Log.f⟩ : (Sl S_impl_Entry)), y17.Role, y17.Commit, (⟨none, y17.Votes.n, y17.Votes.f⟩ : (Sl Int)), (⟨none, y17.Next.n,
    y17.Next.f⟩ : (Sl Int)), (⟨none, y17.Match.n, y17.Match.f⟩ : (Sl Int))⟩ : S_impl_Node)).bind fun y213 => ((F_laws_toNode_H fu aN_0).bind fun y214 => ((F_impl_TimeoutNode_U fu (⟨y214.Id,
    y214.Peers, y214.Term, y214.Voted, (⟨none, y214.Log.n, y214.Log.f⟩ : (Sl S_impl_Entry)), y214.Role, y214.Commit, (⟨none, y214.Votes.n, y214.Votes.f⟩ : (Sl Int)), (⟨none,
    y214.Next.n, y214.Next.f⟩ : (Sl Int)), (⟨none, y214.Match.n, y214.Match.f⟩ : (Sl Int))⟩ : S_impl_Node)).bind fun y369 => ((F_laws_eqNodeResult fu (⟨y369.1, (⟨y369.2.1,
    y369.2.2.1, y369.2.2.2.1, y369.2.2.2.2.1, (⟨none, y369.2.2.2.2.2.1, y369.2.2.2.2.2.2.2.2.2.2.2.2.2.1⟩ : (Sl S_impl_Entry)), y369.2.2.2.2.2.2.1, y369.2.2.2.2.2.2.2.1, (⟨none,
    y369.2.2.2.2.2.2.2.2.1, y369.2.2.2.2.2.2.2.2.2.2.2.2.2.2.2.1⟩ : (Sl Int)), (⟨none, y369.2.2.2.2.2.2.2.2.2.1, y369.2.2.2.2.2.2.2.2.2.2.2.2.2.2.2.2.2.1⟩ : (Sl Int)), (⟨none,
    y369.2.2.2.2.2.2.2.2.2.2.1, y369.2.2.2.2.2.2.2.2.2.2.2.2.2.2.2.2.2.2.2.1⟩ : (Sl Int))⟩ : S_impl_Node), (⟨none, y369.2.2.2.2.2.2.2.2.2.2.2.1,
    y369.2.2.2.2.2.2.2.2.2.2.2.2.2.2.2.2.2.2.2.2.2⟩ : (Sl S_impl_Mail))⟩ : S_impl_NodeResult) (⟨y213.1, (⟨y213.2.1, y213.2.2.1, y213.2.2.2.1, y213.2.2.2.2.1, (⟨none,
    y213.2.2.2.2.2.1, y213.2.2.2.2.2.2.2.2.2.2.2.2.2.1⟩ : (Sl S_impl_Entry)), y213.2.2.2.2.2.2.1, y213.2.2.2.2.2.2.2.1, (⟨none, y213.2.2.2.2.2.2.2.2.1,
    y213.2.2.2.2.2.2.2.2.2.2.2.2.2.2.2.1⟩ : (Sl Int)), (⟨none, y213.2.2.2.2.2.2.2.2.2.1, y213.2.2.2.2.2.2.2.2.2.2.2.2.2.2.2.2.2.1⟩ : (Sl Int)), (⟨none, y213.2.2.2.2.2.2.2.2.2.2.1,
    y213.2.2.2.2.2.2.2.2.2.2.2.2.2.2.2.2.2.2.2.1⟩ : (Sl Int))⟩ : S_impl_Node), (⟨none, y213.2.2.2.2.2.2.2.2.2.2.2.1, y213.2.2.2.2.2.2.2.2.2.2.2.2.2.2.2.2.2.2.2.2.2⟩ : (Sl S_impl_Mail))⟩ : S_impl_NodeResult)).bind fun y370 =>
    (bif (!y370) then (some false) else ((F_laws_toNode_H fu aN_0).bind fun y371 => ((F_laws_eqNode fu (⟨y214.Id, y214.Peers, y214.Term, y214.Voted, (⟨none, y214.Log.n, y214.Log.f⟩ : (Sl S_impl_Entry)),
    y214.Role, y214.Commit, (⟨none, y214.Votes.n, y214.Votes.f⟩ : (Sl Int)), (⟨none, y214.Next.n, y214.Next.f⟩ : (Sl Int)), (⟨none, y214.Match.n, y214.Match.f⟩ : (Sl Int))⟩ : S_impl_Node) (⟨y371.Id,
    y371.Peers, y371.Term, y371.Voted, (⟨none, y371.Log.n, y371.Log.f⟩ : (Sl S_impl_Entry)), y371.Role, y371.Commit, (⟨none, y371.Votes.n, y371.Votes.f⟩ : (Sl Int)), (⟨none,
    y371.Next.n, y371.Next.f⟩ : (Sl Int)), (⟨none, y371.Match.n, y371.Match.f⟩ : (Sl Int))⟩ : S_impl_Node)).bind fun y372 => (bif (!y372) then (some false) else ((F_laws_markNode_L fu y214.Id y214.Peers y214.Term y214.Voted y214.Log.n y214.Role y214.Commit y214.Votes.n y214.Next.n y214.Match.n 1 y214.Log.n y214.Log.f y214.Votes.n y214.Votes.f y214.Next.n y214.Next.f y214.Match.n y214.Match.f).bind fun y381 =>
    (((bif (decide (y381.1 < 0)) then (some true) else ((F_laws_eqNodeResult fu (⟨y369.1, (⟨y369.2.1, y369.2.2.1, y369.2.2.2.1, y369.2.2.2.2.1, (⟨none, y369.2.2.2.2.2.1,
    y369.2.2.2.2.2.2.2.2.2.2.2.2.2.1⟩ : (Sl S_impl_Entry)), y369.2.2.2.2.2.2.1, y369.2.2.2.2.2.2.2.1, (⟨none, y369.2.2.2.2.2.2.2.2.1, y369.2.2.2.2.2.2.2.2.2.2.2.2.2.2.2.1⟩ : (Sl Int)),
    (⟨none, y369.2.2.2.2.2.2.2.2.2.1, y369.2.2.2.2.2.2.2.2.2.2.2.2.2.2.2.2.2.1⟩ : (Sl Int)), (⟨none, y369.2.2.2.2.2.2.2.2.2.2.1, y369.2.2.2.2.2.2.2.2.2.2.2.2.2.2.2.2.2.2.2.1⟩ : (Sl Int))⟩ : S_impl_Node),
    (⟨none, y369.2.2.2.2.2.2.2.2.2.2.2.1, y369.2.2.2.2.2.2.2.2.2.2.2.2.2.2.2.2.2.2.2.2.2⟩ : (Sl S_impl_Mail))⟩ : S_impl_NodeResult) (⟨y213.1, (⟨y213.2.1, y213.2.2.1, y213.2.2.2.1,
    y213.2.2.2.2.1, (⟨none, y213.2.2.2.2.2.1, y213.2.2.2.2.2.2.2.2.2.2.2.2.2.1⟩ : (Sl S_impl_Entry)), y213.2.2.2.2.2.2.1, y213.2.2.2.2.2.2.2.1, (⟨none, y213.2.2.2.2.2.2.2.2.1,
    y213.2.2.2.2.2.2.2.2.2.2.2.2.2.2.2.1⟩ : (Sl Int)), (⟨none, y213.2.2.2.2.2.2.2.2.2.1, y213.2.2.2.2.2.2.2.2.2.2.2.2.2.2.2.2.2.1⟩ : (Sl Int)), (⟨none, y213.2.2.2.2.2.2.2.2.2.2.1,
    y213.2.2.2.2.2.2.2.2.2.2.2.2.2.2.2.2.2.2.2.1⟩ : (Sl Int))⟩ : S_impl_Node), (⟨none, y213.2.2.2.2.2.2.2.2.2.2.2.1, y213.2.2.2.2.2.2.2.2.2.2.2.2.2.2.2.2.2.2.2.2.2⟩ : (Sl S_impl_Mail))⟩ : S_impl_NodeResult)).bind fun y382 =>
    (some (!y382)))) : Option Bool).bind fun m383 => (bif m383 then (some false) else ((F_laws_markNodeResult_U fu y369.1 y369.2.1 y369.2.2.1 y369.2.2.2.1 y369.2.2.2.2.1 y369.2.2.2.2.2.1 y369.2.2.2.2.2.2.1 y369.2.2.2.2.2.2.2.1 y369.2.2.2.2.2.2.2.2.1 y369.2.2.2.2.2.2.2.2.2.1 y369.2.2.2.2.2.2.2.2.2.2.1 y369.2.2.2.2.2.2.2.2.2.2.2.1 1 y369.2.2.2.2.2.2.2.2.2.2.2.2.1 y369.2.2.2.2.2.2.2.2.2.2.2.2.2.1 y369.2.2.2.2.2.2.2.2.2.2.2.2.2.2.1 y369.2.2.2.2.2.2.2.2.2.2.2.2.2.2.2.1 y369.2.2.2.2.2.2.2.2.2.2.2.2.2.2.2.2.1 y369.2.2.2.2.2.2.2.2.2.2.2.2.2.2.2.2.2.1 y369.2.2.2.2.2.2.2.2.2.2.2.2.2.2.2.2.2.2.1 y369.2.2.2.2.2.2.2.2.2.2.2.2.2.2.2.2.2.2.2.1 y369.2.2.2.2.2.2.2.2.2.2.2.2.2.2.2.2.2.2.2.2.1 y369.2.2.2.2.2.2.2.2.2.2.2.2.2.2.2.2.2.2.2.2.1 y369.2.2.2.2.2.2.2.2.2.2.2.2.2.2.2.2.2.2.2.2.2).bind fun y397 =>
    ((F_laws_heldNodeResult fu (⟨y369.1, (⟨y369.2.1, y369.2.2.1, y369.2.2.2.1, y369.2.2.2.2.1, (⟨none, y369.2.2.2.2.2.1, y397.2.2.1⟩ : (Sl S_impl_Entry)), y369.2.2.2.2.2.2.1,
    y369.2.2.2.2.2.2.2.1, (⟨none, y369.2.2.2.2.2.2.2.2.1, y397.2.2.2.2.1⟩ : (Sl Int)), (⟨none, y369.2.2.2.2.2.2.2.2.2.1, y397.2.2.2.2.2.2.1⟩ : (Sl Int)), (⟨none,
    y369.2.2.2.2.2.2.2.2.2.2.1, y397.2.2.2.2.2.2.2.2.1⟩ : (Sl Int))⟩ : S_impl_Node), (⟨none, y369.2.2.2.2.2.2.2.2.2.2.2.1, y397.2.2.2.2.2.2.2.2.2.2.2⟩ : (Sl S_impl_Mail))⟩ : S_impl_NodeResult) 1).bind fun y398 =>
    (bif (decide (y398 < 0)) then (some false) else (bif (y398 != y397.1) then (some false) else ((F_laws_toNode_H fu aN_0).bind fun y399 => ((F_impl_TimeoutNode_U fu (⟨y399.Id,
    y399.Peers, y399.Term, y399.Voted, (⟨none, y399.Log.n, y399.Log.f⟩ : (Sl S_impl_Entry)), y399.Role, y399.Commit, (⟨none, y399.Votes.n, y399.Votes.f⟩ : (Sl Int)), (⟨none,
    y399.Next.n, y399.Next.f⟩ : (Sl Int)), (⟨none, y399.Match.n, y399.Match.f⟩ : (Sl Int))⟩ : S_impl_Node)).bind fun y400 => ((F_laws_eqNodeResult fu (⟨y400.1, (⟨y400.2.1,
    y400.2.2.1, y400.2.2.2.1, y400.2.2.2.2.1, (⟨none, y400.2.2.2.2.2.1, y400.2.2.2.2.2.2.2.2.2.2.2.2.2.1⟩ : (Sl S_impl_Entry)), y400.2.2.2.2.2.2.1, y400.2.2.2.2.2.2.2.1, (⟨none,
    y400.2.2.2.2.2.2.2.2.1, y400.2.2.2.2.2.2.2.2.2.2.2.2.2.2.2.1⟩ : (Sl Int)), (⟨none, y400.2.2.2.2.2.2.2.2.2.1, y400.2.2.2.2.2.2.2.2.2.2.2.2.2.2.2.2.2.1⟩ : (Sl Int)), (⟨none,
    y400.2.2.2.2.2.2.2.2.2.2.1, y400.2.2.2.2.2.2.2.2.2.2.2.2.2.2.2.2.2.2.2.1⟩ : (Sl Int))⟩ : S_impl_Node), (⟨none, y400.2.2.2.2.2.2.2.2.2.2.2.1,
    y400.2.2.2.2.2.2.2.2.2.2.2.2.2.2.2.2.2.2.2.2.2⟩ : (Sl S_impl_Mail))⟩ : S_impl_NodeResult) (⟨y213.1, (⟨y213.2.1, y213.2.2.1, y213.2.2.2.1, y213.2.2.2.2.1, (⟨none,
    y213.2.2.2.2.2.1, y213.2.2.2.2.2.2.2.2.2.2.2.2.2.1⟩ : (Sl S_impl_Entry)), y213.2.2.2.2.2.2.1, y213.2.2.2.2.2.2.2.1, (⟨none, y213.2.2.2.2.2.2.2.2.1,
    y213.2.2.2.2.2.2.2.2.2.2.2.2.2.2.2.1⟩ : (Sl Int)), (⟨none, y213.2.2.2.2.2.2.2.2.2.1, y213.2.2.2.2.2.2.2.2.2.2.2.2.2.2.2.2.2.1⟩ : (Sl Int)), (⟨none, y213.2.2.2.2.2.2.2.2.2.2.1,
    y213.2.2.2.2.2.2.2.2.2.2.2.2.2.2.2.2.2.2.2.1⟩ : (Sl Int))⟩ : S_impl_Node), (⟨none, y213.2.2.2.2.2.2.2.2.2.2.2.1, y213.2.2.2.2.2.2.2.2.2.2.2.2.2.2.2.2.2.2.2.2.2⟩ : (Sl S_impl_Mail))⟩ : S_impl_NodeResult)).bind fun y401 =>
    (bif (!y401) then (some false) else ((F_laws_heldNodeResult fu (⟨y369.1, (⟨y369.2.1, y369.2.2.1, y369.2.2.2.1, y369.2.2.2.2.1, (⟨none, y369.2.2.2.2.2.1, y397.2.2.1⟩ : (Sl S_impl_Entry)),
    y369.2.2.2.2.2.2.1, y369.2.2.2.2.2.2.2.1, (⟨none, y369.2.2.2.2.2.2.2.2.1, y397.2.2.2.2.1⟩ : (Sl Int)), (⟨none, y369.2.2.2.2.2.2.2.2.2.1, y397.2.2.2.2.2.2.1⟩ : (Sl Int)), (⟨none,
    y369.2.2.2.2.2.2.2.2.2.2.1, y397.2.2.2.2.2.2.2.2.1⟩ : (Sl Int))⟩ : S_impl_Node), (⟨none, y369.2.2.2.2.2.2.2.2.2.2.2.1, y397.2.2.2.2.2.2.2.2.2.2.2⟩ : (Sl S_impl_Mail))⟩ : S_impl_NodeResult) 1).bind fun y402 =>
    (bif (decide (y402 < 0)) then (some false) else (bif (y402 != y397.1) then (some false) else (some true))))))))))))))))))))))))))
def pcf_c0 (fu : Nat) (f : Nat) (xs : List (D RT den)) : Option (Out RT den) := match f with | 6 => S_b26 fu xs | 10 => S_b34 fu xs | 11 => S_b31 fu xs | 14 => S_b39 fu xs | _ => none
def pcx_c0 (fu : Nat) (f : Nat) (xs : List (D RT den)) (ins : List (Ob RT den)) : Option (OutX RT den) := match f with | 8 => S_a4 fu xs ins | 12 => S_b18 fu xs ins | 13 => S_b23 fu xs ins | 15 => S_a24 fu xs ins | 16 => S_b15 fu xs ins | _ => none
def pcd_c0 : Nat → Bool := fun f => match f with | 13 => true | 15 => true | 16 => true | _ => false
def pc_c0 (fu : Nat) : Pc RT den := ⟨pcf_c0 fu, fun f => match f with | 8 => true | 12 => true | 13 => true | 15 => true | 16 => true | _ => false, fun f => match f with | 12 => true | 13 => true | _ => false, pcd_c0, pcd0, pcx_c0 fu⟩
def msk_c0 (b : Nat) : List Nat := match b with | 200014 => [42] | _ => []
def lp_c0 (fu : Nat) : Lp RT den (Bool) := ⟨fun b s k => none, inl0⟩
theorem ev_c0 (fu : Nat) (aN_0 : S_laws_Node) : evFun E (pc_c0 fu) msk_c0 (lp_c0 fu) out_bo 4 [(.agg [(.int .i64 aN_0.Id), (.int .i64 aN_0.Peers), (.int .i64 aN_0.Term), (.int .i64 aN_0.Voted), (.rs aN_0.Log.z .laws_Entry aN_0.Log.n aN_0.Log.f), (.int .i64 aN_0.Role), (.int .i64 aN_0.Commit), (.rs aN_0.Votes.z .i64 aN_0.Votes.n aN_0.Votes.f), (.rs aN_0.Next.z .i64 aN_0.Next.n aN_0.Next.f), (.rs aN_0.Match.z .i64 aN_0.Match.n aN_0.Match.f)])] = F_laws_FnExactTimeoutNode fu aN_0 := by kernel_rfl
noncomputable def body_c0 : Code := Try.f4.body.getD .skip
theorem lpok_c0 (fu : Nat) : LpOk E (pc_c0 fu) 0 msk_c0 (lp_c0 fu) (loops 0 body_c0) := lp_nil (loop_nil (by kernel_rfl)) (by kernel_rfl)
def S_c0 (fu : Nat) (xs : List (D RT den)) : Option (Out RT den) := match xs with | [.agg [.int .i64 a0_1, .int .i64 a0_2, .int .i64 a0_3, .int .i64 a0_4, .rs za0_5 .laws_Entry na0_5 fa0_5, .int .i64 a0_6, .int .i64 a0_7, .rs za0_8 .i64 na0_8 fa0_8, .rs za0_9 .i64 na0_9 fa0_9, .rs za0_10 .i64 na0_10 fa0_10]] => some ⟨Bool, F_laws_FnExactTimeoutNode fu (⟨a0_1, a0_2, a0_3, a0_4, (⟨za0_5, na0_5, fa0_5⟩ : (Sl S_laws_Entry)), a0_6, a0_7, (⟨za0_8, na0_8, fa0_8⟩ : (Sl Int)), (⟨za0_9, na0_9, fa0_9⟩ : (Sl Int)), (⟨za0_10, na0_10, fa0_10⟩ : (Sl Int))⟩ : S_laws_Node), enc_bo, fun _ => true⟩ | _ => none
theorem hpc_c0 (fu : Nat) : ∀ f xs o, pcf_c0 fu f xs = some o → ∀ y, o.x = some y → Good E Try.prog f xs (o.g y) := by
  intro f xs o h
  unfold pcf_c0 at h
  split at h
  · exact good_b26 fu xs o h
  · exact good_b34 fu xs o h
  · exact good_b31 fu xs o h
  · exact good_b39 fu xs o h
  · cases h
theorem hpx_c0 (fu : Nat) : ∀ f xs ins o, pcx_c0 fu f xs ins = some o → ∀ y, o.x = some y → GoodXD E Try.prog (pcd_c0 f) f xs ins (o.g y).1 (o.g y).2 := by
  intro f xs ins o h
  unfold pcx_c0 at h
  split at h
  · exact good_a4 fu xs ins o h
  · exact good_b18 fu xs ins o h
  · exact good_b23 fu xs ins o h
  · exact good_a24 fu xs ins o h
  · exact good_b15 fu xs ins o h
  · cases h
theorem goodv_c0 (fu : Nat) (aN_0 : S_laws_Node) (y : Bool) (hy : F_laws_FnExactTimeoutNode fu aN_0 = some y) : Good E Try.prog 4 [(.agg [(.int .i64 aN_0.Id), (.int .i64 aN_0.Peers), (.int .i64 aN_0.Term), (.int .i64 aN_0.Voted), (.rs aN_0.Log.z .laws_Entry aN_0.Log.n aN_0.Log.f), (.int .i64 aN_0.Role), (.int .i64 aN_0.Commit), (.rs aN_0.Votes.z .i64 aN_0.Votes.n aN_0.Votes.f), (.rs aN_0.Next.z .i64 aN_0.Next.n aN_0.Next.f), (.rs aN_0.Match.z .i64 aN_0.Match.n aN_0.Match.f)])] (enc_bo y) :=
  fun_good E_ok (pc_good (pc := pc_c0 fu) (hpc_c0 fu) (hpx_c0 fu)) (fn := Try.f4) (c := body_c0) (out := out_bo) (y := y) (by kernel_rfl) (by kernel_rfl) (by kernel_rfl) (lpok_c0 fu) (fun d hd => out_bo_enc d _ hd) ((ev_c0 fu aN_0).trans hy)
theorem good_c0 (fu : Nat) : ∀ xs o, S_c0 fu xs = some o → ∀ y, o.x = some y → Good E Try.prog 4 xs (o.g y) := by
  intro xs o h y hy
  unfold S_c0 at h
  split at h
  · rename_i a0_1 a0_2 a0_3 a0_4 za0_5 na0_5 fa0_5 a0_6 a0_7 za0_8 na0_8 fa0_8 za0_9 na0_9 fa0_9 za0_10 na0_10 fa0_10
    cases h
    exact goodv_c0 fu (⟨a0_1, a0_2, a0_3, a0_4, (⟨za0_5, na0_5, fa0_5⟩ : (Sl S_laws_Entry)), a0_6, a0_7, (⟨za0_8, na0_8, fa0_8⟩ : (Sl Int)), (⟨za0_9, na0_9, fa0_9⟩ : (Sl Int)), (⟨za0_10, na0_10, fa0_10⟩ : (Sl Int))⟩ : S_laws_Node) y hy
  · cases h
end Go.Proofs.Ytjdgfkmiaikegaa.Pd
