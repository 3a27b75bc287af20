/- The functions' evaluated forms, each a proved summary. Conditions: none. -/
import Derived.Test.YtjdgfkmiaikegaaPcF1
namespace Go.Proofs.Ytjdgfkmiaikegaa.Pc
open Go Go.RowKit Go.Proofs Vm
set_option linter.unusedVariables false
set_option linter.unusedSimpArgs false
set_option maxRecDepth 100000
/-! impl.LogFault -/
def F_impl_LogFault_B0 {ρ : Type} (fu : Nat) (log0_0 : (Sl S_impl_Entry)) (t9_1 : (Sl S_impl_Entry)) (t10_2 : Int) (k0 : Int → Int → Int → Int → Int → Int → Int → Int → Int → Int → Option ρ) (k1 : Int → Int → Int → Int → Int → Int → Int → Int → Int → Option ρ) (k2 : Option ρ) (t11_3 : Int) (go : Int → Option ρ) : Option ρ :=
  (bif (decide (t11_3 < t10_2)) then ((bif (decide (0 ≤ t11_3) && decide ((Int.toNat t11_3) < t9_1.n)) then some () else none : Option Unit).bind fun _ => ((F_impl_EntryFault fu (t9_1.f (Int.toNat t11_3))).bind fun y187 =>
    (bif (y187 != 0) then (k0 y187 (t9_1.f (Int.toNat t11_3)).Term (t9_1.f (Int.toNat t11_3)).Client (t9_1.f (Int.toNat t11_3)).Seq (t9_1.f (Int.toNat t11_3)).Cmd.Kind (t9_1.f (Int.toNat t11_3)).Cmd.Expect (t9_1.f (Int.toNat t11_3)).Cmd.Name (t9_1.f (Int.toNat t11_3)).Cmd.Addr (t9_1.f (Int.toNat t11_3)).Cmd.Number (t9_1.f (Int.toNat t11_3)).Cmd.Proto) else
    (((bif (decide (t11_3 > 0)) then ((bif (decide (0 ≤ (IntKind.wrap .i64 (t11_3 - 1))) && decide ((Int.toNat (IntKind.wrap .i64 (t11_3 - 1))) < log0_0.n)) then some () else none : Option Unit).bind fun _ =>
    (some (decide ((t9_1.f (Int.toNat t11_3)).Term < (log0_0.f (Int.toNat (IntKind.wrap .i64 (t11_3 - 1)))).Term)))) else (some false)) : Option Bool).bind fun m188 => (bif m188 then
    (k1 (t9_1.f (Int.toNat t11_3)).Term (t9_1.f (Int.toNat t11_3)).Client (t9_1.f (Int.toNat t11_3)).Seq (t9_1.f (Int.toNat t11_3)).Cmd.Kind (t9_1.f (Int.toNat t11_3)).Cmd.Expect (t9_1.f (Int.toNat t11_3)).Cmd.Name (t9_1.f (Int.toNat t11_3)).Cmd.Addr (t9_1.f (Int.toNat t11_3)).Cmd.Number (t9_1.f (Int.toNat t11_3)).Cmd.Proto) else
    (go (IntKind.wrap .i64 (t11_3 + 1)))))))) else k2)
def F_impl_LogFault (fu : Nat) (log_0 : (Sl S_impl_Entry)) : Option (Int) :=
  (bif (decide (((log_0.n : Nat) : Int) > 40)) then (some 2) else (L (fun w0 go0 => F_impl_LogFault_B0 fu log_0 log_0 ((log_0.n : Nat) : Int) (fun z189 z190 z191 z192 z193 z194 z195 z196 z197 z198 =>
    (some z189)) (fun z199 z200 z201 z202 z203 z204 z205 z206 z207 => (some 1)) (some 0) w0 go0) fu (0 : Int)))
def pcf_b0 (fu : Nat) (f : Nat) (xs : List (D RT den)) : Option (Out RT den) := match f with | 65 => S_a39 fu xs | _ => none
def pc_b0 (fu : Nat) : Pc RT den := ⟨pcf_b0 fu, fun _ => false, fun _ => false, pcd0, pcd0, pcx0⟩
def msk_b0 (b : Nat) : List Nat := match b with | 0 => [1, 2, 3, 4, 5, 6, 7, 8, 12, 13, 14, 15, 16, 17, 18, 19, 20, 21, 22, 23, 24, 25, 26, 27, 28, 29, 30, 31, 32, 33, 34] | 100000 => [0, 1, 3, 4, 5, 6, 7, 8, 9, 10, 11, 12, 13, 14, 15, 16, 17, 18, 19, 20, 21, 22, 23, 24, 25, 26, 27, 28, 29, 30, 31, 32, 33, 34] | 200009 => [33] | _ => []
def ps_b0_0 : List (Pat RT) := [.flat (.rs .impl_Entry), .flat .q, .flat .q, .flat .q, .flat .q, .flat .q, .flat .q, .flat .q, .flat .q, .flat (.rs .impl_Entry), .flat (.int .i64), .flat (.int .i64), .flat .q, .flat .q, .flat .q, .flat .q, .flat .q, .flat .q, .flat .q, .flat .q, .flat .q, .flat .q, .flat .q, .flat .q, .flat .q, .flat .q, .flat .q, .flat .q, .flat .q, .flat .q, .flat .q, .flat .q, .flat .q, .flat .q, .flat .q]
def os_b0_0 : List (OP RT) := []
def conv_b0_0 (r : Raw den ps_b0_0 os_b0_0) : ((Sl S_impl_Entry) × (Sl S_impl_Entry) × Int) × (Int) := ((r.1.1, r.1.2.2.2.2.2.2.2.2.2.1, r.1.2.2.2.2.2.2.2.2.2.2.1), r.1.2.2.2.2.2.2.2.2.2.2.2.1)
def back_b0_0 (c : (Sl S_impl_Entry) × (Sl S_impl_Entry) × Int) (w : Int) : St RT den := ⟨[(.rs c.1.z .impl_Entry c.1.n c.1.f), .q, .q, .q, .q, .q, .q, .q, .q, (.rs c.2.1.z .impl_Entry c.2.1.n c.2.1.f), (.int .i64 c.2.2), (.int .i64 w), .q, .q, .q, .q, .q, .q, .q, .q, .q, .q, .q, .q, .q, .q, .q, .q, .q, .q, .q, .q, .q, .q, .q], []⟩
def Bk_b0_0 {ρ : Type} (fu : Nat) (c : (Sl S_impl_Entry) × (Sl S_impl_Entry) × Int) (k : Ex → St RT den → Option ρ) (w : Int) (go : (Int) → Option ρ) : Option ρ := F_impl_LogFault_B0 fu c.1 c.2.1 c.2.2 (fun a0 a1 a2 a3 a4 a5 a6 a7 a8 a9 => k .ret ⟨[.q, .q, (.int .i64 a0), .q, .q, .q, .q, .q, .q, .q, .q, .q, .q, .q, .q, .q, .q, .q, .q, .q, .q, .q, .q, .q, .q, .q, .q, .q, .q, .q, .q, .q, .q, .q, .q], [(.box false [(.int .i64 a1), (.int .i64 a2), (.int .i64 a3), (.int .i64 a4), (.int .i64 a5), (.int .i64 a6), (.int .i64 a7), (.int .i64 a8), (.int .i64 a9)])]⟩) (fun a0 a1 a2 a3 a4 a5 a6 a7 a8 => k .ret ⟨[.q, .q, (.int .i64 1), .q, .q, .q, .q, .q, .q, .q, .q, .q, .q, .q, .q, .q, .q, .q, .q, .q, .q, .q, .q, .q, .q, .q, .q, .q, .q, .q, .q, .q, .q, .q, .q], [(.box false [(.int .i64 a0), (.int .i64 a1), (.int .i64 a2), (.int .i64 a3), (.int .i64 a4), (.int .i64 a5), (.int .i64 a6), (.int .i64 a7), (.int .i64 a8)])]⟩) (k (.exit 0) ⟨[.q, .q, .q, .q, .q, .q, .q, .q, .q, .q, .q, .q, .q, .q, .q, .q, .q, .q, .q, .q, .q, .q, .q, .q, .q, .q, .q, .q, .q, .q, .q, .q, .q, .q, .q], []⟩) w go
def lp_b0 (fu : Nat) : Lp RT den (Int) := ⟨fun b s k => match b with | 0 => handle ps_b0_0 os_b0_0 conv_b0_0 (Bk_b0_0 fu) fu s k | _ => none, inl0⟩
theorem ev_b0 (fu : Nat) (log_0 : (Sl S_impl_Entry)) : evFun E (pc_b0 fu) msk_b0 (lp_b0 fu) out_i64 60 [(.rs log_0.z .impl_Entry log_0.n log_0.f)] = F_impl_LogFault fu log_0 := by kernel_rfl
noncomputable def body_b0 : Code := Try.f60.body.getD .skip
noncomputable def lc_b0_0 : Code := ((loops 0 body_b0).getD 0 (0, .skip)).2
theorem round_b0_0 (fu : Nat) (it : St RT den → Option (Int)) (k : Ex → St RT den → Option (Int)) c w : evCode E (pc_b0 fu) msk_b0 (lp_b0 fu) 0 lc_b0_0 (back_b0_0 c w) (after (msk_b0 0) (msk_b0 100000) 0 it k) = Bk_b0_0 fu c k w (fun w => it (back_b0_0 c w)) := by kernel_rfl
theorem lpok_b0_0 (fu : Nat) : ∀ s k r, (lp_b0 fu).lp 0 s k = some r → ∃ fuel, iter (msk_b0 0) (msk_b0 100000) s.objs.length (evCode E (pc_b0 fu) msk_b0 (lp_b0 fu) 0 lc_b0_0) fuel s k = some r :=
  handle_ok (ps := ps_b0_0) (os := os_b0_0) (conv := conv_b0_0) (B := Bk_b0_0 fu) (fu := fu) back_b0_0 (fun raw => by kernel_rfl) 0 (fun c w => by kernel_rfl) (round_b0_0 fu)
theorem lpok_b0 (fu : Nat) : LpOk E (pc_b0 fu) 0 msk_b0 (lp_b0 fu) (loops 0 body_b0) := lp_nil (loop_all 1 (by kernel_rfl) fun i hi => match i, hi with
  | 0, _ => by
    have h : (loops 0 body_b0).getD 0 (0, .skip) = (0, lc_b0_0) := by kernel_rfl
    rw [h]; exact lpok_b0_0 fu
  | i + 1, hi => absurd hi (by omega)) (by kernel_rfl)
def S_b0 (fu : Nat) (xs : List (D RT den)) : Option (Out RT den) := match xs with | [.rs za0_0 .impl_Entry na0_0 fa0_0] => some ⟨Int, F_impl_LogFault fu (⟨za0_0, na0_0, fa0_0⟩ : (Sl S_impl_Entry)), enc_i64, fun _ => true⟩ | _ => none
theorem hpc_b0 (fu : Nat) : ∀ f xs o, pcf_b0 fu f xs = some o → ∀ y, o.x = some y → Good E Try.prog f xs (o.g y) := by
  intro f xs o h
  unfold pcf_b0 at h
  split at h
  · exact good_a39 fu xs o h
  · cases h
theorem goodv_b0 (fu : Nat) (log_0 : (Sl S_impl_Entry)) (y : Int) (hy : F_impl_LogFault fu log_0 = some y) : Good E Try.prog 60 [(.rs log_0.z .impl_Entry log_0.n log_0.f)] (enc_i64 y) :=
  fun_good E_ok (pc_good (pc := pc_b0 fu) (hpc_b0 fu) hpx0) (fn := Try.f60) (c := body_b0) (out := out_i64) (y := y) (by kernel_rfl) (by kernel_rfl) (by kernel_rfl) (lpok_b0 fu) (fun d hd => out_i64_enc d _ hd) ((ev_b0 fu log_0).trans hy)
theorem good_b0 (fu : Nat) : ∀ xs o, S_b0 fu xs = some o → ∀ y, o.x = some y → Good E Try.prog 60 xs (o.g y) := by
  intro xs o h y hy
  unfold S_b0 at h
  split at h
  · rename_i za0_0 na0_0 fa0_0
    cases h
    exact goodv_b0 fu (⟨za0_0, na0_0, fa0_0⟩ : (Sl S_impl_Entry)) y hy
  · cases h

/-! impl.size[impl.Entry] -/
def F_impl_size_impl_Entry (fu : Nat) (list_0 : (Sl S_impl_Entry)) : Option (Int) :=
  (some ((list_0.n : Nat) : Int))
def pc_b1 (fu : Nat) : Pc RT den := ⟨pcf0, fun _ => false, fun _ => false, pcd0, pcd0, pcx0⟩
def msk_b1 (b : Nat) : List Nat := []
def lp_b1 (fu : Nat) : Lp RT den (Int) := ⟨fun b s k => none, inl0⟩
theorem ev_b1 (fu : Nat) (list_0 : (Sl S_impl_Entry)) : evFun E (pc_b1 fu) msk_b1 (lp_b1 fu) out_i64 37 [(.rs list_0.z .impl_Entry list_0.n list_0.f)] = F_impl_size_impl_Entry fu list_0 := by kernel_rfl
noncomputable def body_b1 : Code := Try.f37.body.getD .skip
theorem lpok_b1 (fu : Nat) : LpOk E (pc_b1 fu) 0 msk_b1 (lp_b1 fu) (loops 0 body_b1) := lp_nil (loop_nil (by kernel_rfl)) (by kernel_rfl)
def S_b1 (fu : Nat) (xs : List (D RT den)) : Option (Out RT den) := match xs with | [.rs za0_0 .impl_Entry na0_0 fa0_0] => some ⟨Int, F_impl_size_impl_Entry fu (⟨za0_0, na0_0, fa0_0⟩ : (Sl S_impl_Entry)), enc_i64, fun _ => true⟩ | _ => none
theorem goodv_b1 (fu : Nat) (list_0 : (Sl S_impl_Entry)) (y : Int) (hy : F_impl_size_impl_Entry fu list_0 = some y) : Good E Try.prog 37 [(.rs list_0.z .impl_Entry list_0.n list_0.f)] (enc_i64 y) :=
  fun_good E_ok (pc_good (pc := pc_b1 fu) hpc0 hpx0) (fn := Try.f37) (c := body_b1) (out := out_i64) (y := y) (by kernel_rfl) (by kernel_rfl) (by kernel_rfl) (lpok_b1 fu) (fun d hd => out_i64_enc d _ hd) ((ev_b1 fu list_0).trans hy)
theorem good_b1 (fu : Nat) : ∀ xs o, S_b1 fu xs = some o → ∀ y, o.x = some y → Good E Try.prog 37 xs (o.g y) := by
  intro xs o h y hy
  unfold S_b1 at h
  split at h
  · rename_i za0_0 na0_0 fa0_0
    cases h
    exact goodv_b1 fu (⟨za0_0, na0_0, fa0_0⟩ : (Sl S_impl_Entry)) y hy
  · cases h

/-! impl.last -/
def F_impl_last (fu : Nat) (log_0 : (Sl S_impl_Entry)) : Option (S_impl_Entry) :=
  (bif (((log_0.n : Nat) : Int) == 0) then (some (⟨0, 0, 0, (⟨0, 0, 0, 0, 0, 0⟩ : S_impl_Cmd)⟩ : S_impl_Entry)) else ((bif (decide (0 ≤ (IntKind.wrap .i64 (((log_0.n : Nat) : Int) - 1))) &&
    decide ((Int.toNat (IntKind.wrap .i64 (((log_0.n : Nat) : Int) - 1))) < log_0.n)) then some () else none : Option Unit).bind fun _ => (some (log_0.f (Int.toNat (IntKind.wrap .i64 (((log_0.n : Nat) : Int) - 1)))))))
def pc_b2 (fu : Nat) : Pc RT den := ⟨pcf0, fun _ => false, fun _ => false, pcd0, pcd0, pcx0⟩
def msk_b2 (b : Nat) : List Nat := []
def lp_b2 (fu : Nat) : Lp RT den (S_impl_Entry) := ⟨fun b s k => none, inl0⟩
theorem ev_b2 (fu : Nat) (log_0 : (Sl S_impl_Entry)) : evFun E (pc_b2 fu) msk_b2 (lp_b2 fu) out_impl_Entry 35 [(.rs log_0.z .impl_Entry log_0.n log_0.f)] = F_impl_last fu log_0 := by kernel_rfl
noncomputable def body_b2 : Code := Try.f35.body.getD .skip
theorem lpok_b2 (fu : Nat) : LpOk E (pc_b2 fu) 0 msk_b2 (lp_b2 fu) (loops 0 body_b2) := lp_nil (loop_nil (by kernel_rfl)) (by kernel_rfl)
def S_b2 (fu : Nat) (xs : List (D RT den)) : Option (Out RT den) := match xs with | [.rs za0_0 .impl_Entry na0_0 fa0_0] => some ⟨S_impl_Entry, F_impl_last fu (⟨za0_0, na0_0, fa0_0⟩ : (Sl S_impl_Entry)), enc_impl_Entry, fun _ => true⟩ | _ => none
theorem goodv_b2 (fu : Nat) (log_0 : (Sl S_impl_Entry)) (y : S_impl_Entry) (hy : F_impl_last fu log_0 = some y) : Good E Try.prog 35 [(.rs log_0.z .impl_Entry log_0.n log_0.f)] (enc_impl_Entry y) :=
  fun_good E_ok (pc_good (pc := pc_b2 fu) hpc0 hpx0) (fn := Try.f35) (c := body_b2) (out := out_impl_Entry) (y := y) (by kernel_rfl) (by kernel_rfl) (by kernel_rfl) (lpok_b2 fu) (fun d hd => out_impl_Entry_enc d _ hd) ((ev_b2 fu log_0).trans hy)
theorem good_b2 (fu : Nat) : ∀ xs o, S_b2 fu xs = some o → ∀ y, o.x = some y → Good E Try.prog 35 xs (o.g y) := by
  intro xs o h y hy
  unfold S_b2 at h
  split at h
  · rename_i za0_0 na0_0 fa0_0
    cases h
    exact goodv_b2 fu (⟨za0_0, na0_0, fa0_0⟩ : (Sl S_impl_Entry)) y hy
  · cases h

/-! impl.size[int64] -/
def F_impl_size_int64 (fu : Nat) (list_0 : (Sl Int)) : Option (Int) :=
  (some ((list_0.n : Nat) : Int))
def pc_b3 (fu : Nat) : Pc RT den := ⟨pcf0, fun _ => false, fun _ => false, pcd0, pcd0, pcx0⟩
def msk_b3 (b : Nat) : List Nat := []
def lp_b3 (fu : Nat) : Lp RT den (Int) := ⟨fun b s k => none, inl0⟩
theorem ev_b3 (fu : Nat) (list_0 : (Sl Int)) : evFun E (pc_b3 fu) msk_b3 (lp_b3 fu) out_i64 61 [(.rs list_0.z .i64 list_0.n list_0.f)] = F_impl_size_int64 fu list_0 := by kernel_rfl
noncomputable def body_b3 : Code := Try.f61.body.getD .skip
theorem lpok_b3 (fu : Nat) : LpOk E (pc_b3 fu) 0 msk_b3 (lp_b3 fu) (loops 0 body_b3) := lp_nil (loop_nil (by kernel_rfl)) (by kernel_rfl)
def S_b3 (fu : Nat) (xs : List (D RT den)) : Option (Out RT den) := match xs with | [.rs za0_0 .i64 na0_0 fa0_0] => some ⟨Int, F_impl_size_int64 fu (⟨za0_0, na0_0, fa0_0⟩ : (Sl Int)), enc_i64, fun _ => true⟩ | _ => none
theorem goodv_b3 (fu : Nat) (list_0 : (Sl Int)) (y : Int) (hy : F_impl_size_int64 fu list_0 = some y) : Good E Try.prog 61 [(.rs list_0.z .i64 list_0.n list_0.f)] (enc_i64 y) :=
  fun_good E_ok (pc_good (pc := pc_b3 fu) hpc0 hpx0) (fn := Try.f61) (c := body_b3) (out := out_i64) (y := y) (by kernel_rfl) (by kernel_rfl) (by kernel_rfl) (lpok_b3 fu) (fun d hd => out_i64_enc d _ hd) ((ev_b3 fu list_0).trans hy)
theorem good_b3 (fu : Nat) : ∀ xs o, S_b3 fu xs = some o → ∀ y, o.x = some y → Good E Try.prog 61 xs (o.g y) := by
  intro xs o h y hy
  unfold S_b3 at h
  split at h
  · rename_i za0_0 na0_0 fa0_0
    cases h
    exact goodv_b3 fu (⟨za0_0, na0_0, fa0_0⟩ : (Sl Int)) y hy
  · cases h

/-! impl.NodeFault'1 -/
def F_impl_NodeFault_c1 (fu : Nat) (k_0 : Int) (x_1_1 : Int) : Option (Bool) :=
  ((F_impl_in fu k_0 1 (IntKind.wrap .i64 (x_1_1 + 1))).bind fun y247 => (some (!y247)))
def pcf_b4 (fu : Nat) (f : Nat) (xs : List (D RT den)) : Option (Out RT den) := match f with | 58 => S_a30 fu xs | _ => none
def pc_b4 (fu : Nat) : Pc RT den := ⟨pcf_b4 fu, fun _ => false, fun _ => false, pcd0, pcd0, pcx0⟩
def msk_b4 (b : Nat) : List Nat := []
def lp_b4 (fu : Nat) : Lp RT den (Bool) := ⟨fun b s k => none, inl0⟩
theorem ev_b4 (fu : Nat) (k_0 : Int) (x_1_1 : Int) : evFun E (pc_b4 fu) msk_b4 (lp_b4 fu) out_bo 63 [(.int .i64 k_0), (.rptr [(.int .i64 x_1_1)])] = F_impl_NodeFault_c1 fu k_0 x_1_1 := by kernel_rfl
noncomputable def body_b4 : Code := Try.f63.body.getD .skip
theorem lpok_b4 (fu : Nat) : LpOk E (pc_b4 fu) 0 msk_b4 (lp_b4 fu) (loops 0 body_b4) := lp_nil (loop_nil (by kernel_rfl)) (by kernel_rfl)
def S_b4 (fu : Nat) (xs : List (D RT den)) : Option (Out RT den) := match xs with | [.int .i64 a0_0, .rptr [.int .i64 a1_0]] => some ⟨Bool, F_impl_NodeFault_c1 fu a0_0 a1_0, enc_bo, fun _ => true⟩ | _ => none
theorem hpc_b4 (fu : Nat) : ∀ f xs o, pcf_b4 fu f xs = some o → ∀ y, o.x = some y → Good E Try.prog f xs (o.g y) := by
  intro f xs o h
  unfold pcf_b4 at h
  split at h
  · exact good_a30 fu xs o h
  · cases h
theorem goodv_b4 (fu : Nat) (k_0 : Int) (x_1_1 : Int) (y : Bool) (hy : F_impl_NodeFault_c1 fu k_0 x_1_1 = some y) : Good E Try.prog 63 [(.int .i64 k_0), (.rptr [(.int .i64 x_1_1)])] (enc_bo y) :=
  fun_good E_ok (pc_good (pc := pc_b4 fu) (hpc_b4 fu) hpx0) (fn := Try.f63) (c := body_b4) (out := out_bo) (y := y) (by kernel_rfl) (by kernel_rfl) (by kernel_rfl) (lpok_b4 fu) (fun d hd => out_bo_enc d _ hd) ((ev_b4 fu k_0 x_1_1).trans hy)
theorem good_b4 (fu : Nat) : ∀ xs o, S_b4 fu xs = some o → ∀ y, o.x = some y → Good E Try.prog 63 xs (o.g y) := by
  intro xs o h y hy
  unfold S_b4 at h
  split at h
  · rename_i a0_0 a1_0
    cases h
    exact goodv_b4 fu a0_0 a1_0 y hy
  · cases h

/-! slices.IndexFunc[[]int64,int64] -/
def F_slices_IndexFunc_int64_int64_w_impl_NodeFault_c1_B0 {ρ : Type} (fu : Nat) (s0_0 : (Sl Int)) (f1_1 : Int) (t7_2 : Int) (k0 : Int → Option ρ) (k1 : Option ρ) (t8_3 : Int) (go : Int → Option ρ) : Option ρ :=
  (bif (decide (t8_3 < t7_2)) then ((bif (decide (0 ≤ t8_3) && decide ((Int.toNat t8_3) < s0_0.n)) then some () else none : Option Unit).bind fun _ => ((F_impl_NodeFault_c1 fu (s0_0.f (Int.toNat t8_3)) f1_1).bind fun y245 =>
    (bif y245 then (k0 t8_3) else (go (IntKind.wrap .i64 (t8_3 + 1)))))) else k1)
def F_slices_IndexFunc_int64_int64_w_impl_NodeFault_c1 (fu : Nat) (s_0 : (Sl Int)) (f_1_1 : Int) : Option (Int) :=
  (L (fun w0 go0 => F_slices_IndexFunc_int64_int64_w_impl_NodeFault_c1_B0 fu s_0 f_1_1 ((s_0.n : Nat) : Int) (fun z246 => (some z246)) (some (-1)) w0 go0) fu (0 : Int))
def pcf_b5 (fu : Nat) (f : Nat) (xs : List (D RT den)) : Option (Out RT den) := match f with | 63 => S_b4 fu xs | _ => none
def pc_b5 (fu : Nat) : Pc RT den := ⟨pcf_b5 fu, fun _ => false, fun _ => false, pcd0, pcd0, pcx0⟩
def msk_b5 (b : Nat) : List Nat := match b with | 0 => [2, 3, 4, 5, 6, 9, 10, 11, 12, 13, 14, 15, 16, 17, 18] | 100000 => [0, 1, 2, 3, 5, 6, 7, 8, 9, 10, 11, 12, 13, 14, 15, 16, 17, 18] | _ => []
def ps_b5_0 : List (Pat RT) := [.flat (.rs .i64), .fn 63 [.rptr [(.int .i64)]], .flat .q, .flat .q, .flat .q, .flat .q, .flat .q, .flat (.int .i64), .flat (.int .i64), .flat .q, .flat .q, .flat .q, .flat .q, .flat .q, .flat .q, .flat .q, .flat .q, .flat .q, .flat .q]
def os_b5_0 : List (OP RT) := []
def conv_b5_0 (r : Raw den ps_b5_0 os_b5_0) : ((Sl Int) × Int × Int) × (Int) := ((r.1.1, r.1.2.1.1.1, r.1.2.2.2.2.2.2.2.1), r.1.2.2.2.2.2.2.2.2.1)
def back_b5_0 (c : (Sl Int) × Int × Int) (w : Int) : St RT den := ⟨[(.rs c.1.z .i64 c.1.n c.1.f), (.fn 63 [(.rptr [(.int .i64 c.2.1)])]), .q, .q, .q, .q, .q, (.int .i64 c.2.2), (.int .i64 w), .q, .q, .q, .q, .q, .q, .q, .q, .q, .q], []⟩
def Bk_b5_0 {ρ : Type} (fu : Nat) (c : (Sl Int) × Int × Int) (k : Ex → St RT den → Option ρ) (w : Int) (go : (Int) → Option ρ) : Option ρ := F_slices_IndexFunc_int64_int64_w_impl_NodeFault_c1_B0 fu c.1 c.2.1 c.2.2 (fun a0 => k .ret ⟨[.q, .q, .q, .q, (.int .i64 a0), .q, .q, .q, .q, .q, .q, .q, .q, .q, .q, .q, .q, .q, .q], []⟩) (k (.exit 0) ⟨[.q, .q, .q, .q, .q, .q, .q, .q, .q, .q, .q, .q, .q, .q, .q, .q, .q, .q, .q], []⟩) w go
def lp_b5 (fu : Nat) : Lp RT den (Int) := ⟨fun b s k => match b with | 0 => handle ps_b5_0 os_b5_0 conv_b5_0 (Bk_b5_0 fu) fu s k | _ => none, inl0⟩
theorem ev_b5 (fu : Nat) (s_0 : (Sl Int)) (f_1_1 : Int) : evFun E (pc_b5 fu) msk_b5 (lp_b5 fu) out_i64 87 [(.rs s_0.z .i64 s_0.n s_0.f), (.fn 63 [(.rptr [(.int .i64 f_1_1)])])] = F_slices_IndexFunc_int64_int64_w_impl_NodeFault_c1 fu s_0 f_1_1 := by kernel_rfl
noncomputable def body_b5 : Code := Try.f87.body.getD .skip
noncomputable def lc_b5_0 : Code := ((loops 0 body_b5).getD 0 (0, .skip)).2
theorem round_b5_0 (fu : Nat) (it : St RT den → Option (Int)) (k : Ex → St RT den → Option (Int)) c w : evCode E (pc_b5 fu) msk_b5 (lp_b5 fu) 0 lc_b5_0 (back_b5_0 c w) (after (msk_b5 0) (msk_b5 100000) 0 it k) = Bk_b5_0 fu c k w (fun w => it (back_b5_0 c w)) := by kernel_rfl
theorem lpok_b5_0 (fu : Nat) : ∀ s k r, (lp_b5 fu).lp 0 s k = some r → ∃ fuel, iter (msk_b5 0) (msk_b5 100000) s.objs.length (evCode E (pc_b5 fu) msk_b5 (lp_b5 fu) 0 lc_b5_0) fuel s k = some r :=
  handle_ok (ps := ps_b5_0) (os := os_b5_0) (conv := conv_b5_0) (B := Bk_b5_0 fu) (fu := fu) back_b5_0 (fun raw => by kernel_rfl) 0 (fun c w => by kernel_rfl) (round_b5_0 fu)
theorem lpok_b5 (fu : Nat) : LpOk E (pc_b5 fu) 0 msk_b5 (lp_b5 fu) (loops 0 body_b5) := lp_nil (loop_all 1 (by kernel_rfl) fun i hi => match i, hi with
  | 0, _ => by
    have h : (loops 0 body_b5).getD 0 (0, .skip) = (0, lc_b5_0) := by kernel_rfl
    rw [h]; exact lpok_b5_0 fu
  | i + 1, hi => absurd hi (by omega)) (by kernel_rfl)
def S_b5 (fu : Nat) (xs : List (D RT den)) : Option (Out RT den) := match xs with | [.rs za0_0 .i64 na0_0 fa0_0, .fn 63 [.rptr [.int .i64 a1_0]]] => some ⟨Int, F_slices_IndexFunc_int64_int64_w_impl_NodeFault_c1 fu (⟨za0_0, na0_0, fa0_0⟩ : (Sl Int)) a1_0, enc_i64, fun _ => true⟩ | _ => none
theorem hpc_b5 (fu : Nat) : ∀ f xs o, pcf_b5 fu f xs = some o → ∀ y, o.x = some y → Good E Try.prog f xs (o.g y) := by
  intro f xs o h
  unfold pcf_b5 at h
  split at h
  · exact good_b4 fu xs o h
  · cases h
theorem goodv_b5 (fu : Nat) (s_0 : (Sl Int)) (f_1_1 : Int) (y : Int) (hy : F_slices_IndexFunc_int64_int64_w_impl_NodeFault_c1 fu s_0 f_1_1 = some y) : Good E Try.prog 87 [(.rs s_0.z .i64 s_0.n s_0.f), (.fn 63 [(.rptr [(.int .i64 f_1_1)])])] (enc_i64 y) :=
  fun_good E_ok (pc_good (pc := pc_b5 fu) (hpc_b5 fu) hpx0) (fn := Try.f87) (c := body_b5) (out := out_i64) (y := y) (by kernel_rfl) (by kernel_rfl) (by kernel_rfl) (lpok_b5 fu) (fun d hd => out_i64_enc d _ hd) ((ev_b5 fu s_0 f_1_1).trans hy)
theorem good_b5 (fu : Nat) : ∀ xs o, S_b5 fu xs = some o → ∀ y, o.x = some y → Good E Try.prog 87 xs (o.g y) := by
  intro xs o h y hy
  unfold S_b5 at h
  split at h
  · rename_i za0_0 na0_0 fa0_0 a1_0
    cases h
    exact goodv_b5 fu (⟨za0_0, na0_0, fa0_0⟩ : (Sl Int)) a1_0 y hy
  · cases h

/-! slices.ContainsFunc[[]int64,int64] -/
def F_slices_ContainsFunc_int64_int64_w_impl_NodeFault_c1 (fu : Nat) (s_0 : (Sl Int)) (f_1_1 : Int) : Option (Bool) :=
  ((F_slices_IndexFunc_int64_int64_w_impl_NodeFault_c1 fu s_0 f_1_1).bind fun y244 => (some (decide (y244 ≥ 0))))
def pcf_b6 (fu : Nat) (f : Nat) (xs : List (D RT den)) : Option (Out RT den) := match f with | 87 => S_b5 fu xs | _ => none
def pc_b6 (fu : Nat) : Pc RT den := ⟨pcf_b6 fu, fun _ => false, fun _ => false, pcd0, pcd0, pcx0⟩
def msk_b6 (b : Nat) : List Nat := []
def lp_b6 (fu : Nat) : Lp RT den (Bool) := ⟨fun b s k => none, inl0⟩
theorem ev_b6 (fu : Nat) (s_0 : (Sl Int)) (f_1_1 : Int) : evFun E (pc_b6 fu) msk_b6 (lp_b6 fu) out_bo 62 [(.rs s_0.z .i64 s_0.n s_0.f), (.fn 63 [(.rptr [(.int .i64 f_1_1)])])] = F_slices_ContainsFunc_int64_int64_w_impl_NodeFault_c1 fu s_0 f_1_1 := by kernel_rfl
noncomputable def body_b6 : Code := Try.f62.body.getD .skip
theorem lpok_b6 (fu : Nat) : LpOk E (pc_b6 fu) 0 msk_b6 (lp_b6 fu) (loops 0 body_b6) := lp_nil (loop_nil (by kernel_rfl)) (by kernel_rfl)
def S_b6 (fu : Nat) (xs : List (D RT den)) : Option (Out RT den) := match xs with | [.rs za0_0 .i64 na0_0 fa0_0, .fn 63 [.rptr [.int .i64 a1_0]]] => some ⟨Bool, F_slices_ContainsFunc_int64_int64_w_impl_NodeFault_c1 fu (⟨za0_0, na0_0, fa0_0⟩ : (Sl Int)) a1_0, enc_bo, fun _ => true⟩ | _ => none
theorem hpc_b6 (fu : Nat) : ∀ f xs o, pcf_b6 fu f xs = some o → ∀ y, o.x = some y → Good E Try.prog f xs (o.g y) := by
  intro f xs o h
  unfold pcf_b6 at h
  split at h
  · exact good_b5 fu xs o h
  · cases h
theorem goodv_b6 (fu : Nat) (s_0 : (Sl Int)) (f_1_1 : Int) (y : Bool) (hy : F_slices_ContainsFunc_int64_int64_w_impl_NodeFault_c1 fu s_0 f_1_1 = some y) : Good E Try.prog 62 [(.rs s_0.z .i64 s_0.n s_0.f), (.fn 63 [(.rptr [(.int .i64 f_1_1)])])] (enc_bo y) :=
  fun_good E_ok (pc_good (pc := pc_b6 fu) (hpc_b6 fu) hpx0) (fn := Try.f62) (c := body_b6) (out := out_bo) (y := y) (by kernel_rfl) (by kernel_rfl) (by kernel_rfl) (lpok_b6 fu) (fun d hd => out_bo_enc d _ hd) ((ev_b6 fu s_0 f_1_1).trans hy)
theorem good_b6 (fu : Nat) : ∀ xs o, S_b6 fu xs = some o → ∀ y, o.x = some y → Good E Try.prog 62 xs (o.g y) := by
  intro xs o h y hy
  unfold S_b6 at h
  split at h
  · rename_i za0_0 na0_0 fa0_0 a1_0
    cases h
    exact goodv_b6 fu (⟨za0_0, na0_0, fa0_0⟩ : (Sl Int)) a1_0 y hy
  · cases h

/-! impl.NodeFault'2 -/
def F_impl_NodeFault_c2 (fu : Nat) (k_0 : Int) (x_1_1 : Int) : Option (Bool) :=
  ((F_impl_in fu k_0 0 x_1_1).bind fun y251 => (some (!y251)))
def pcf_b7 (fu : Nat) (f : Nat) (xs : List (D RT den)) : Option (Out RT den) := match f with | 58 => S_a30 fu xs | _ => none
def pc_b7 (fu : Nat) : Pc RT den := ⟨pcf_b7 fu, fun _ => false, fun _ => false, pcd0, pcd0, pcx0⟩
def msk_b7 (b : Nat) : List Nat := []
def lp_b7 (fu : Nat) : Lp RT den (Bool) := ⟨fun b s k => none, inl0⟩
theorem ev_b7 (fu : Nat) (k_0 : Int) (x_1_1 : Int) : evFun E (pc_b7 fu) msk_b7 (lp_b7 fu) out_bo 64 [(.int .i64 k_0), (.rptr [(.int .i64 x_1_1)])] = F_impl_NodeFault_c2 fu k_0 x_1_1 := by kernel_rfl
noncomputable def body_b7 : Code := Try.f64.body.getD .skip
theorem lpok_b7 (fu : Nat) : LpOk E (pc_b7 fu) 0 msk_b7 (lp_b7 fu) (loops 0 body_b7) := lp_nil (loop_nil (by kernel_rfl)) (by kernel_rfl)
def S_b7 (fu : Nat) (xs : List (D RT den)) : Option (Out RT den) := match xs with | [.int .i64 a0_0, .rptr [.int .i64 a1_0]] => some ⟨Bool, F_impl_NodeFault_c2 fu a0_0 a1_0, enc_bo, fun _ => true⟩ | _ => none
theorem hpc_b7 (fu : Nat) : ∀ f xs o, pcf_b7 fu f xs = some o → ∀ y, o.x = some y → Good E Try.prog f xs (o.g y) := by
  intro f xs o h
  unfold pcf_b7 at h
  split at h
  · exact good_a30 fu xs o h
  · cases h
theorem goodv_b7 (fu : Nat) (k_0 : Int) (x_1_1 : Int) (y : Bool) (hy : F_impl_NodeFault_c2 fu k_0 x_1_1 = some y) : Good E Try.prog 64 [(.int .i64 k_0), (.rptr [(.int .i64 x_1_1)])] (enc_bo y) :=
  fun_good E_ok (pc_good (pc := pc_b7 fu) (hpc_b7 fu) hpx0) (fn := Try.f64) (c := body_b7) (out := out_bo) (y := y) (by kernel_rfl) (by kernel_rfl) (by kernel_rfl) (lpok_b7 fu) (fun d hd => out_bo_enc d _ hd) ((ev_b7 fu k_0 x_1_1).trans hy)
theorem good_b7 (fu : Nat) : ∀ xs o, S_b7 fu xs = some o → ∀ y, o.x = some y → Good E Try.prog 64 xs (o.g y) := by
  intro xs o h y hy
  unfold S_b7 at h
  split at h
  · rename_i a0_0 a1_0
    cases h
    exact goodv_b7 fu a0_0 a1_0 y hy
  · cases h

/-! slices.IndexFunc[[]int64,int64] -/
def F_slices_IndexFunc_int64_int64_w_impl_NodeFault_c2_B0 {ρ : Type} (fu : Nat) (s0_0 : (Sl Int)) (f1_1 : Int) (t7_2 : Int) (k0 : Int → Option ρ) (k1 : Option ρ) (t8_3 : Int) (go : Int → Option ρ) : Option ρ :=
  (bif (decide (t8_3 < t7_2)) then ((bif (decide (0 ≤ t8_3) && decide ((Int.toNat t8_3) < s0_0.n)) then some () else none : Option Unit).bind fun _ => ((F_impl_NodeFault_c2 fu (s0_0.f (Int.toNat t8_3)) f1_1).bind fun y249 =>
    (bif y249 then (k0 t8_3) else (go (IntKind.wrap .i64 (t8_3 + 1)))))) else k1)
def F_slices_IndexFunc_int64_int64_w_impl_NodeFault_c2 (fu : Nat) (s_0 : (Sl Int)) (f_1_1 : Int) : Option (Int) :=
  (L (fun w0 go0 => F_slices_IndexFunc_int64_int64_w_impl_NodeFault_c2_B0 fu s_0 f_1_1 ((s_0.n : Nat) : Int) (fun z250 => (some z250)) (some (-1)) w0 go0) fu (0 : Int))
def pcf_b8 (fu : Nat) (f : Nat) (xs : List (D RT den)) : Option (Out RT den) := match f with | 64 => S_b7 fu xs | _ => none
def pc_b8 (fu : Nat) : Pc RT den := ⟨pcf_b8 fu, fun _ => false, fun _ => false, pcd0, pcd0, pcx0⟩
def msk_b8 (b : Nat) : List Nat := match b with | 0 => [2, 3, 4, 5, 6, 9, 10, 11, 12, 13, 14, 15, 16, 17, 18] | 100000 => [0, 1, 2, 3, 5, 6, 7, 8, 9, 10, 11, 12, 13, 14, 15, 16, 17, 18] | _ => []
def ps_b8_0 : List (Pat RT) := [.flat (.rs .i64), .fn 64 [.rptr [(.int .i64)]], .flat .q, .flat .q, .flat .q, .flat .q, .flat .q, .flat (.int .i64), .flat (.int .i64), .flat .q, .flat .q, .flat .q, .flat .q, .flat .q, .flat .q, .flat .q, .flat .q, .flat .q, .flat .q]
def os_b8_0 : List (OP RT) := []
def conv_b8_0 (r : Raw den ps_b8_0 os_b8_0) : ((Sl Int) × Int × Int) × (Int) := ((r.1.1, r.1.2.1.1.1, r.1.2.2.2.2.2.2.2.1), r.1.2.2.2.2.2.2.2.2.1)
def back_b8_0 (c : (Sl Int) × Int × Int) (w : Int) : St RT den := ⟨[(.rs c.1.z .i64 c.1.n c.1.f), (.fn 64 [(.rptr [(.int .i64 c.2.1)])]), .q, .q, .q, .q, .q, (.int .i64 c.2.2), (.int .i64 w), .q, .q, .q, .q, .q, .q, .q, .q, .q, .q], []⟩
def Bk_b8_0 {ρ : Type} (fu : Nat) (c : (Sl Int) × Int × Int) (k : Ex → St RT den → Option ρ) (w : Int) (go : (Int) → Option ρ) : Option ρ := F_slices_IndexFunc_int64_int64_w_impl_NodeFault_c2_B0 fu c.1 c.2.1 c.2.2 (fun a0 => k .ret ⟨[.q, .q, .q, .q, (.int .i64 a0), .q, .q, .q, .q, .q, .q, .q, .q, .q, .q, .q, .q, .q, .q], []⟩) (k (.exit 0) ⟨[.q, .q, .q, .q, .q, .q, .q, .q, .q, .q, .q, .q, .q, .q, .q, .q, .q, .q, .q], []⟩) w go
def lp_b8 (fu : Nat) : Lp RT den (Int) := ⟨fun b s k => match b with | 0 => handle ps_b8_0 os_b8_0 conv_b8_0 (Bk_b8_0 fu) fu s k | _ => none, inl0⟩
theorem ev_b8 (fu : Nat) (s_0 : (Sl Int)) (f_1_1 : Int) : evFun E (pc_b8 fu) msk_b8 (lp_b8 fu) out_i64 87 [(.rs s_0.z .i64 s_0.n s_0.f), (.fn 64 [(.rptr [(.int .i64 f_1_1)])])] = F_slices_IndexFunc_int64_int64_w_impl_NodeFault_c2 fu s_0 f_1_1 := by kernel_rfl
noncomputable def body_b8 : Code := Try.f87.body.getD .skip
noncomputable def lc_b8_0 : Code := ((loops 0 body_b8).getD 0 (0, .skip)).2
theorem round_b8_0 (fu : Nat) (it : St RT den → Option (Int)) (k : Ex → St RT den → Option (Int)) c w : evCode E (pc_b8 fu) msk_b8 (lp_b8 fu) 0 lc_b8_0 (back_b8_0 c w) (after (msk_b8 0) (msk_b8 100000) 0 it k) = Bk_b8_0 fu c k w (fun w => it (back_b8_0 c w)) := by kernel_rfl
theorem lpok_b8_0 (fu : Nat) : ∀ s k r, (lp_b8 fu).lp 0 s k = some r → ∃ fuel, iter (msk_b8 0) (msk_b8 100000) s.objs.length (evCode E (pc_b8 fu) msk_b8 (lp_b8 fu) 0 lc_b8_0) fuel s k = some r :=
  handle_ok (ps := ps_b8_0) (os := os_b8_0) (conv := conv_b8_0) (B := Bk_b8_0 fu) (fu := fu) back_b8_0 (fun raw => by kernel_rfl) 0 (fun c w => by kernel_rfl) (round_b8_0 fu)
theorem lpok_b8 (fu : Nat) : LpOk E (pc_b8 fu) 0 msk_b8 (lp_b8 fu) (loops 0 body_b8) := lp_nil (loop_all 1 (by kernel_rfl) fun i hi => match i, hi with
  | 0, _ => by
    have h : (loops 0 body_b8).getD 0 (0, .skip) = (0, lc_b8_0) := by kernel_rfl
    rw [h]; exact lpok_b8_0 fu
  | i + 1, hi => absurd hi (by omega)) (by kernel_rfl)
def S_b8 (fu : Nat) (xs : List (D RT den)) : Option (Out RT den) := match xs with | [.rs za0_0 .i64 na0_0 fa0_0, .fn 64 [.rptr [.int .i64 a1_0]]] => some ⟨Int, F_slices_IndexFunc_int64_int64_w_impl_NodeFault_c2 fu (⟨za0_0, na0_0, fa0_0⟩ : (Sl Int)) a1_0, enc_i64, fun _ => true⟩ | _ => none
theorem hpc_b8 (fu : Nat) : ∀ f xs o, pcf_b8 fu f xs = some o → ∀ y, o.x = some y → Good E Try.prog f xs (o.g y) := by
  intro f xs o h
  unfold pcf_b8 at h
  split at h
  · exact good_b7 fu xs o h
  · cases h
theorem goodv_b8 (fu : Nat) (s_0 : (Sl Int)) (f_1_1 : Int) (y : Int) (hy : F_slices_IndexFunc_int64_int64_w_impl_NodeFault_c2 fu s_0 f_1_1 = some y) : Good E Try.prog 87 [(.rs s_0.z .i64 s_0.n s_0.f), (.fn 64 [(.rptr [(.int .i64 f_1_1)])])] (enc_i64 y) :=
  fun_good E_ok (pc_good (pc := pc_b8 fu) (hpc_b8 fu) hpx0) (fn := Try.f87) (c := body_b8) (out := out_i64) (y := y) (by kernel_rfl) (by kernel_rfl) (by kernel_rfl) (lpok_b8 fu) (fun d hd => out_i64_enc d _ hd) ((ev_b8 fu s_0 f_1_1).trans hy)
theorem good_b8 (fu : Nat) : ∀ xs o, S_b8 fu xs = some o → ∀ y, o.x = some y → Good E Try.prog 87 xs (o.g y) := by
  intro xs o h y hy
  unfold S_b8 at h
  split at h
  · rename_i za0_0 na0_0 fa0_0 a1_0
    cases h
    exact goodv_b8 fu (⟨za0_0, na0_0, fa0_0⟩ : (Sl Int)) a1_0 y hy
  · cases h

/-! slices.ContainsFunc[[]int64,int64] -/
def F_slices_ContainsFunc_int64_int64_w_impl_NodeFault_c2 (fu : Nat) (s_0 : (Sl Int)) (f_1_1 : Int) : Option (Bool) :=
  ((F_slices_IndexFunc_int64_int64_w_impl_NodeFault_c2 fu s_0 f_1_1).bind fun y248 => (some (decide (y248 ≥ 0))))
def pcf_b9 (fu : Nat) (f : Nat) (xs : List (D RT den)) : Option (Out RT den) := match f with | 87 => S_b8 fu xs | _ => none
def pc_b9 (fu : Nat) : Pc RT den := ⟨pcf_b9 fu, fun _ => false, fun _ => false, pcd0, pcd0, pcx0⟩
def msk_b9 (b : Nat) : List Nat := []
def lp_b9 (fu : Nat) : Lp RT den (Bool) := ⟨fun b s k => none, inl0⟩
theorem ev_b9 (fu : Nat) (s_0 : (Sl Int)) (f_1_1 : Int) : evFun E (pc_b9 fu) msk_b9 (lp_b9 fu) out_bo 62 [(.rs s_0.z .i64 s_0.n s_0.f), (.fn 64 [(.rptr [(.int .i64 f_1_1)])])] = F_slices_ContainsFunc_int64_int64_w_impl_NodeFault_c2 fu s_0 f_1_1 := by kernel_rfl
noncomputable def body_b9 : Code := Try.f62.body.getD .skip
theorem lpok_b9 (fu : Nat) : LpOk E (pc_b9 fu) 0 msk_b9 (lp_b9 fu) (loops 0 body_b9) := lp_nil (loop_nil (by kernel_rfl)) (by kernel_rfl)
def S_b9 (fu : Nat) (xs : List (D RT den)) : Option (Out RT den) := match xs with | [.rs za0_0 .i64 na0_0 fa0_0, .fn 64 [.rptr [.int .i64 a1_0]]] => some ⟨Bool, F_slices_ContainsFunc_int64_int64_w_impl_NodeFault_c2 fu (⟨za0_0, na0_0, fa0_0⟩ : (Sl Int)) a1_0, enc_bo, fun _ => true⟩ | _ => none
theorem hpc_b9 (fu : Nat) : ∀ f xs o, pcf_b9 fu f xs = some o → ∀ y, o.x = some y → Good E Try.prog f xs (o.g y) := by
  intro f xs o h
  unfold pcf_b9 at h
  split at h
  · exact good_b8 fu xs o h
  · cases h
theorem goodv_b9 (fu : Nat) (s_0 : (Sl Int)) (f_1_1 : Int) (y : Bool) (hy : F_slices_ContainsFunc_int64_int64_w_impl_NodeFault_c2 fu s_0 f_1_1 = some y) : Good E Try.prog 62 [(.rs s_0.z .i64 s_0.n s_0.f), (.fn 64 [(.rptr [(.int .i64 f_1_1)])])] (enc_bo y) :=
  fun_good E_ok (pc_good (pc := pc_b9 fu) (hpc_b9 fu) hpx0) (fn := Try.f62) (c := body_b9) (out := out_bo) (y := y) (by kernel_rfl) (by kernel_rfl) (by kernel_rfl) (lpok_b9 fu) (fun d hd => out_bo_enc d _ hd) ((ev_b9 fu s_0 f_1_1).trans hy)
theorem good_b9 (fu : Nat) : ∀ xs o, S_b9 fu xs = some o → ∀ y, o.x = some y → Good E Try.prog 62 xs (o.g y) := by
  intro xs o h y hy
  unfold S_b9 at h
  split at h
  · rename_i za0_0 na0_0 fa0_0 a1_0
    cases h
    exact goodv_b9 fu (⟨za0_0, na0_0, fa0_0⟩ : (Sl Int)) a1_0 y hy
  · cases h

/-! impl.NodeFault -/
def F_impl_NodeFault_B1 {ρ : Type} (fu : Nat) (t75_0 : (Sl Int)) (t76_1 : Int) (o0_3 : Int) (o0_4 : Int) (o0_5 : Int) (o0_6 : Int) (o0_7 : (Sl S_impl_Entry)) (o0_8 : Int) (o0_9 : Int) (o0_10 : (Sl Int)) (o0_11 : (Sl Int)) (o0_12 : (Sl Int)) (o1_13 : Int) (k0 : Option ρ) (k1 : Option ρ) (t77_2 : Int) (go : Int → Option ρ) : Option ρ :=
  (bif (decide (t77_2 < t76_1)) then ((bif (decide (0 ≤ t77_2) && decide ((Int.toNat t77_2) < t75_0.n)) then some () else none : Option Unit).bind fun _ => ((((F_impl_Node_isId fu (⟨o0_3,
    o0_4, o0_5, o0_6, o0_7, o0_8, o0_9, o0_10, o0_11, o0_12⟩ : S_impl_Node) (t75_0.f (Int.toNat t77_2))).bind fun y173 => (bif (!y173) then (some true) else (bif (decide (t77_2 > 0)) then
    ((bif (decide (0 ≤ (IntKind.wrap .i64 (t77_2 - 1))) && decide ((Int.toNat (IntKind.wrap .i64 (t77_2 - 1))) < o0_10.n)) then some () else none : Option Unit).bind fun _ => (some (decide ((t75_0.f (Int.toNat t77_2)) ≤ (o0_10.f (Int.toNat (IntKind.wrap .i64 (t77_2 - 1)))))))) else
    (some false)))) : Option Bool).bind fun m174 => (bif m174 then k0 else (go (IntKind.wrap .i64 (t77_2 + 1)))))) else k1)
def F_impl_NodeFault (fu : Nat) (t_0 : S_impl_Node) : Option (Int) :=
  ((((F_impl_in fu t_0.Peers 1 5).bind fun y159 => (bif (!y159) then (some true) else ((F_impl_Node_isId fu t_0 t_0.Id).bind fun y162 => (bif (!y162) then (some true) else
    ((F_impl_in fu t_0.Term 0 100000).bind fun y163 => (bif (!y163) then (some true) else (bif (t_0.Voted != (-1)) then ((F_impl_Node_isId fu t_0 t_0.Voted).bind fun y164 => (bif (!y164) then
    (some true) else ((F_impl_in fu t_0.Role 0 2).bind fun y165 => (some (!y165))))) else ((F_impl_in fu t_0.Role 0 2).bind fun y166 => (some (!y166)))))))))) : Option Bool).bind fun m167 =>
    (bif m167 then (some 3) else ((F_impl_LogFault fu t_0.Log).bind fun y168 => (bif (y168 != 0) then (some y168) else ((F_impl_size_impl_Entry fu t_0.Log).bind fun y169 =>
    ((F_impl_last fu t_0.Log).bind fun y170 => (bif (decide (y170.Term > t_0.Term)) then (some 1) else ((F_impl_in fu t_0.Commit 0 y169).bind fun y171 => (bif (!y171) then (some 3) else
    (((bif (decide (((t_0.Votes.n : Nat) : Int) > 0)) then (some (t_0.Role != 1)) else (some false)) : Option Bool).bind fun m172 => (bif m172 then (some 1) else (L (fun w1 go1 =>
    F_impl_NodeFault_B1 fu t_0.Votes ((t_0.Votes.n : Nat) : Int) t_0.Id t_0.Peers t_0.Term t_0.Voted t_0.Log t_0.Role t_0.Commit t_0.Votes t_0.Next t_0.Match y169 (some 1) (bif (t_0.Role == 2) then
    ((((F_impl_size_int64 fu t_0.Next).bind fun y175 => (bif (y175 != t_0.Peers) then (some true) else ((F_impl_size_int64 fu t_0.Match).bind fun y176 => (some (y176 != t_0.Peers))))) : Option Bool).bind fun m177 =>
    (bif m177 then (some 1) else ((F_slices_ContainsFunc_int64_int64_w_impl_NodeFault_c1 fu t_0.Next y169).bind fun y178 => (bif y178 then (some 3) else
    ((F_slices_ContainsFunc_int64_int64_w_impl_NodeFault_c2 fu t_0.Match y169).bind fun y179 => (bif y179 then (some 3) else (((bif (t_0.Role != 0) then (bif (t_0.Voted != t_0.Id) then
    (some true) else (some (t_0.Term == 0))) else (some false)) : Option Bool).bind fun m180 => (bif m180 then (some 1) else (some 0))))))))) else ((((F_impl_size_int64 fu t_0.Next).bind fun y181 =>
    (bif (y181 != 0) then (some true) else ((F_impl_size_int64 fu t_0.Match).bind fun y182 => (some (y182 != 0))))) : Option Bool).bind fun m183 => (bif m183 then (some 1) else
    ((F_slices_ContainsFunc_int64_int64_w_impl_NodeFault_c1 fu t_0.Next y169).bind fun y184 => (bif y184 then (some 3) else ((F_slices_ContainsFunc_int64_int64_w_impl_NodeFault_c2 fu t_0.Match y169).bind fun y185 =>
    (bif y185 then (some 3) else (((bif (t_0.Role != 0) then (bif (t_0.Voted != t_0.Id) then (some true) else (some (t_0.Term == 0))) else (some false)) : Option Bool).bind fun m186 =>
    (bif m186 then (some 1) else (some 0)))))))))) w1 go1) fu (0 : Int)))))))))))))
def pcf_b10 (fu : Nat) (f : Nat) (xs : List (D RT den)) : Option (Out RT den) := match f with | 35 => S_b2 fu xs | 37 => S_b1 fu xs | 58 => S_a30 fu xs | 59 => S_a31 fu xs | 60 => S_b0 fu xs | 61 => S_b3 fu xs | 62 => (match S_b6 fu xs with | some o => some o | none => S_b9 fu xs) | _ => none
def pc_b10 (fu : Nat) : Pc RT den := ⟨pcf_b10 fu, fun _ => false, fun _ => false, pcd0, pcd0, pcx0⟩
def msk_b10 (b : Nat) : List Nat := match b with | 1 => [0, 2, 3, 5, 6, 7, 8, 9, 10, 11, 12, 13, 14, 15, 16, 17, 18, 19, 20, 21, 22, 23, 24, 25, 26, 27, 28, 29, 30, 31, 32, 33, 34, 35, 36, 37, 38, 39, 40, 41, 42, 43, 44, 45, 46, 47, 48, 49, 50, 51, 52, 53, 54, 55, 56, 57, 58, 59, 60, 61, 62, 63, 64, 65, 66, 67, 68, 69, 70, 71, 72, 73, 74, 78, 79, 80, 81, 82, 83, 84, 85, 86, 87, 88, 89, 90, 91, 92, 93, 94, 95, 96, 97, 98, 99, 100, 101, 102, 103, 104, 105, 106, 107, 108, 109, 110, 111, 112, 113, 114, 115, 116, 117, 118, 119, 120, 121, 122, 123, 124, 125, 126, 127, 128, 129, 130, 131, 132, 133, 134, 135, 136, 137, 138, 139, 140, 141, 142, 143] | 100001 => [0, 3, 5, 6, 7, 8, 9, 10, 11, 12, 13, 14, 15, 16, 17, 18, 19, 20, 21, 22, 23, 24, 25, 26, 27, 28, 29, 30, 31, 32, 33, 34, 35, 36, 37, 38, 39, 40, 41, 42, 43, 44, 45, 46, 47, 48, 49, 50, 51, 52, 53, 54, 55, 56, 57, 58, 59, 60, 61, 62, 63, 64, 65, 66, 67, 68, 69, 70, 71, 72, 73, 74, 75, 76, 77, 78, 79, 80, 81, 82, 83, 84, 85, 86, 87, 88, 89, 90, 91, 92, 93, 94, 95, 96, 97, 98, 99, 100, 101, 102, 103, 104, 105, 106, 107, 108, 109, 110, 111, 112, 113, 114, 115, 116, 117, 118, 119, 120, 121, 122, 123, 124, 125, 126, 127, 128, 129, 130, 131, 132, 133, 134, 135, 136, 137, 138, 139, 140, 141, 142, 143] | 200001 => [40] | 200011 => [64] | 200016 => [98] | 200022 => [105] | 200028 => [128] | _ => []
def ps_b10_1 : List (Pat RT) := [.flat .q, .flat (.ref 0 0), .flat .q, .flat .q, .flat (.ref 1 0), .flat .q, .flat .q, .flat .q, .flat .q, .flat .q, .flat .q, .flat .q, .flat .q, .flat .q, .flat .q, .flat .q, .flat .q, .flat .q, .flat .q, .flat .q, .flat .q, .flat .q, .flat .q, .flat .q, .flat .q, .flat .q, .flat .q, .flat .q, .flat .q, .flat .q, .flat .q, .flat .q, .flat .q, .flat .q, .flat .q, .flat .q, .flat .q, .flat .q, .flat .q, .flat .q, .flat .q, .flat .q, .flat .q, .flat .q, .flat .q, .flat .q, .flat .q, .flat .q, .flat .q, .flat .q, .flat .q, .flat .q, .flat .q, .flat .q, .flat .q, .flat .q, .flat .q, .flat .q, .flat .q, .flat .q, .flat .q, .flat .q, .flat .q, .flat .q, .flat .q, .flat .q, .flat .q, .flat .q, .flat .q, .flat .q, .flat .q, .flat .q, .flat .q, .flat .q, .flat .q, .flat (.rs .i64), .flat (.int .i64), .flat (.int .i64), .flat .q, .flat .q, .flat .q, .flat .q, .flat .q, .flat .q, .flat .q, .flat .q, .flat .q, .flat .q, .flat .q, .flat .q, .flat .q, .flat .q, .flat .q, .flat .q, .flat .q, .flat .q, .flat .q, .flat .q, .flat .q, .flat .q, .flat .q, .flat .q, .flat .q, .flat .q, .flat .q, .flat .q, .flat .q, .flat .q, .flat .q, .flat .q, .flat .q, .flat .q, .flat .q, .flat .q, .flat .q, .flat .q, .flat .q, .flat .q, .flat .q, .flat .q, .flat .q, .flat .q, .flat .q, .flat .q, .flat .q, .flat .q, .flat .q, .flat .q, .flat .q, .flat .q, .flat .q, .flat .q, .flat .q, .flat .q, .flat .q, .flat .q, .flat .q, .flat .q, .flat .q, .flat .q, .flat .q, .flat .q, .flat .q, .flat .q]
def os_b10_1 : List (OP RT) := [.box false [(.int .i64), (.int .i64), (.int .i64), (.int .i64), (.rs .impl_Entry), (.int .i64), (.int .i64), (.rs .i64), (.rs .i64), (.rs .i64)], .box false [(.int .i64)]]
def conv_b10_1 (r : Raw den ps_b10_1 os_b10_1) : ((Sl Int) × Int × Int × Int × Int × Int × (Sl S_impl_Entry) × Int × Int × (Sl Int) × (Sl Int) × (Sl Int) × Int) × (Int) := ((r.1.2.2.2.2.2.2.2.2.2.2.2.2.2.2.2.2.2.2.2.2.2.2.2.2.2.2.2.2.2.2.2.2.2.2.2.2.2.2.2.2.2.2.2.2.2.2.2.2.2.2.2.2.2.2.2.2.2.2.2.2.2.2.2.2.2.2.2.2.2.2.2.2.2.2.2.1, r.1.2.2.2.2.2.2.2.2.2.2.2.2.2.2.2.2.2.2.2.2.2.2.2.2.2.2.2.2.2.2.2.2.2.2.2.2.2.2.2.2.2.2.2.2.2.2.2.2.2.2.2.2.2.2.2.2.2.2.2.2.2.2.2.2.2.2.2.2.2.2.2.2.2.2.2.2.1, r.2.1.1, r.2.1.2.1, r.2.1.2.2.1, r.2.1.2.2.2.1, r.2.1.2.2.2.2.1, r.2.1.2.2.2.2.2.1, r.2.1.2.2.2.2.2.2.1, r.2.1.2.2.2.2.2.2.2.1, r.2.1.2.2.2.2.2.2.2.2.1, r.2.1.2.2.2.2.2.2.2.2.2.1, r.2.2.1.1), r.1.2.2.2.2.2.2.2.2.2.2.2.2.2.2.2.2.2.2.2.2.2.2.2.2.2.2.2.2.2.2.2.2.2.2.2.2.2.2.2.2.2.2.2.2.2.2.2.2.2.2.2.2.2.2.2.2.2.2.2.2.2.2.2.2.2.2.2.2.2.2.2.2.2.2.2.2.2.1)
def back_b10_1 (c : (Sl Int) × Int × Int × Int × Int × Int × (Sl S_impl_Entry) × Int × Int × (Sl Int) × (Sl Int) × (Sl Int) × Int) (w : Int) : St RT den := ⟨[.q, (.ref 0 0), .q, .q, (.ref 1 0), .q, .q, .q, .q, .q, .q, .q, .q, .q, .q, .q, .q, .q, .q, .q, .q, .q, .q, .q, .q, .q, .q, .q, .q, .q, .q, .q, .q, .q, .q, .q, .q, .q, .q, .q, .q, .q, .q, .q, .q, .q, .q, .q, .q, .q, .q, .q, .q, .q, .q, .q, .q, .q, .q, .q, .q, .q, .q, .q, .q, .q, .q, .q, .q, .q, .q, .q, .q, .q, .q, (.rs c.1.z .i64 c.1.n c.1.f), (.int .i64 c.2.1), (.int .i64 w), .q, .q, .q, .q, .q, .q, .q, .q, .q, .q, .q, .q, .q, .q, .q, .q, .q, .q, .q, .q, .q, .q, .q, .q, .q, .q, .q, .q, .q, .q, .q, .q, .q, .q, .q, .q, .q, .q, .q, .q, .q, .q, .q, .q, .q, .q, .q, .q, .q, .q, .q, .q, .q, .q, .q, .q, .q, .q, .q, .q, .q, .q, .q, .q, .q, .q], [(.box false [(.int .i64 c.2.2.1), (.int .i64 c.2.2.2.1), (.int .i64 c.2.2.2.2.1), (.int .i64 c.2.2.2.2.2.1), (.rs c.2.2.2.2.2.2.1.z .impl_Entry c.2.2.2.2.2.2.1.n c.2.2.2.2.2.2.1.f), (.int .i64 c.2.2.2.2.2.2.2.1), (.int .i64 c.2.2.2.2.2.2.2.2.1), (.rs c.2.2.2.2.2.2.2.2.2.1.z .i64 c.2.2.2.2.2.2.2.2.2.1.n c.2.2.2.2.2.2.2.2.2.1.f), (.rs c.2.2.2.2.2.2.2.2.2.2.1.z .i64 c.2.2.2.2.2.2.2.2.2.2.1.n c.2.2.2.2.2.2.2.2.2.2.1.f), (.rs c.2.2.2.2.2.2.2.2.2.2.2.1.z .i64 c.2.2.2.2.2.2.2.2.2.2.2.1.n c.2.2.2.2.2.2.2.2.2.2.2.1.f)]), (.box false [(.int .i64 c.2.2.2.2.2.2.2.2.2.2.2.2)])]⟩
def Bk_b10_1 {ρ : Type} (fu : Nat) (c : (Sl Int) × Int × Int × Int × Int × Int × (Sl S_impl_Entry) × Int × Int × (Sl Int) × (Sl Int) × (Sl Int) × Int) (k : Ex → St RT den → Option ρ) (w : Int) (go : (Int) → Option ρ) : Option ρ := F_impl_NodeFault_B1 fu c.1 c.2.1 c.2.2.1 c.2.2.2.1 c.2.2.2.2.1 c.2.2.2.2.2.1 c.2.2.2.2.2.2.1 c.2.2.2.2.2.2.2.1 c.2.2.2.2.2.2.2.2.1 c.2.2.2.2.2.2.2.2.2.1 c.2.2.2.2.2.2.2.2.2.2.1 c.2.2.2.2.2.2.2.2.2.2.2.1 c.2.2.2.2.2.2.2.2.2.2.2.2 (k .ret ⟨[.q, (.ref 0 0), (.int .i64 1), .q, (.ref 1 0), .q, .q, .q, .q, .q, .q, .q, .q, .q, .q, .q, .q, .q, .q, .q, .q, .q, .q, .q, .q, .q, .q, .q, .q, .q, .q, .q, .q, .q, .q, .q, .q, .q, .q, .q, .q, .q, .q, .q, .q, .q, .q, .q, .q, .q, .q, .q, .q, .q, .q, .q, .q, .q, .q, .q, .q, .q, .q, .q, .q, .q, .q, .q, .q, .q, .q, .q, .q, .q, .q, .q, .q, .q, .q, .q, .q, .q, .q, .q, .q, .q, .q, .q, .q, .q, .q, .q, .q, .q, .q, .q, .q, .q, .q, .q, .q, .q, .q, .q, .q, .q, .q, .q, .q, .q, .q, .q, .q, .q, .q, .q, .q, .q, .q, .q, .q, .q, .q, .q, .q, .q, .q, .q, .q, .q, .q, .q, .q, .q, .q, .q, .q, .q, .q, .q, .q, .q, .q, .q], [(.box false [(.int .i64 c.2.2.1), (.int .i64 c.2.2.2.1), (.int .i64 c.2.2.2.2.1), (.int .i64 c.2.2.2.2.2.1), (.rs c.2.2.2.2.2.2.1.z .impl_Entry c.2.2.2.2.2.2.1.n c.2.2.2.2.2.2.1.f), (.int .i64 c.2.2.2.2.2.2.2.1), (.int .i64 c.2.2.2.2.2.2.2.2.1), (.rs c.2.2.2.2.2.2.2.2.2.1.z .i64 c.2.2.2.2.2.2.2.2.2.1.n c.2.2.2.2.2.2.2.2.2.1.f), (.rs c.2.2.2.2.2.2.2.2.2.2.1.z .i64 c.2.2.2.2.2.2.2.2.2.2.1.n c.2.2.2.2.2.2.2.2.2.2.1.f), (.rs c.2.2.2.2.2.2.2.2.2.2.2.1.z .i64 c.2.2.2.2.2.2.2.2.2.2.2.1.n c.2.2.2.2.2.2.2.2.2.2.2.1.f)]), (.box false [(.int .i64 c.2.2.2.2.2.2.2.2.2.2.2.2)])]⟩) (k (.exit 1) ⟨[.q, (.ref 0 0), .q, .q, (.ref 1 0), .q, .q, .q, .q, .q, .q, .q, .q, .q, .q, .q, .q, .q, .q, .q, .q, .q, .q, .q, .q, .q, .q, .q, .q, .q, .q, .q, .q, .q, .q, .q, .q, .q, .q, .q, .q, .q, .q, .q, .q, .q, .q, .q, .q, .q, .q, .q, .q, .q, .q, .q, .q, .q, .q, .q, .q, .q, .q, .q, .q, .q, .q, .q, .q, .q, .q, .q, .q, .q, .q, .q, .q, .q, .q, .q, .q, .q, .q, .q, .q, .q, .q, .q, .q, .q, .q, .q, .q, .q, .q, .q, .q, .q, .q, .q, .q, .q, .q, .q, .q, .q, .q, .q, .q, .q, .q, .q, .q, .q, .q, .q, .q, .q, .q, .q, .q, .q, .q, .q, .q, .q, .q, .q, .q, .q, .q, .q, .q, .q, .q, .q, .q, .q, .q, .q, .q, .q, .q, .q], [(.box false [(.int .i64 c.2.2.1), (.int .i64 c.2.2.2.1), (.int .i64 c.2.2.2.2.1), (.int .i64 c.2.2.2.2.2.1), (.rs c.2.2.2.2.2.2.1.z .impl_Entry c.2.2.2.2.2.2.1.n c.2.2.2.2.2.2.1.f), (.int .i64 c.2.2.2.2.2.2.2.1), (.int .i64 c.2.2.2.2.2.2.2.2.1), (.rs c.2.2.2.2.2.2.2.2.2.1.z .i64 c.2.2.2.2.2.2.2.2.2.1.n c.2.2.2.2.2.2.2.2.2.1.f), (.rs c.2.2.2.2.2.2.2.2.2.2.1.z .i64 c.2.2.2.2.2.2.2.2.2.2.1.n c.2.2.2.2.2.2.2.2.2.2.1.f), (.rs c.2.2.2.2.2.2.2.2.2.2.2.1.z .i64 c.2.2.2.2.2.2.2.2.2.2.2.1.n c.2.2.2.2.2.2.2.2.2.2.2.1.f)]), (.box false [(.int .i64 c.2.2.2.2.2.2.2.2.2.2.2.2)])]⟩) w go
def lp_b10 (fu : Nat) : Lp RT den (Int) := ⟨fun b s k => match b with | 1 => handle ps_b10_1 os_b10_1 conv_b10_1 (Bk_b10_1 fu) fu s k | _ => none, inl0⟩
theorem ev_b10 (fu : Nat) (t_0 : S_impl_Node) : evFun E (pc_b10 fu) msk_b10 (lp_b10 fu) out_i64 19 [(.agg [(.int .i64 t_0.Id), (.int .i64 t_0.Peers), (.int .i64 t_0.Term), (.int .i64 t_0.Voted), (.rs t_0.Log.z .impl_Entry t_0.Log.n t_0.Log.f), (.int .i64 t_0.Role), (.int .i64 t_0.Commit), (.rs t_0.Votes.z .i64 t_0.Votes.n t_0.Votes.f), (.rs t_0.Next.z .i64 t_0.Next.n t_0.Next.f), (.rs t_0.Match.z .i64 t_0.Match.n t_0.Match.f)])] = F_impl_NodeFault fu t_0 := by kernel_rfl
noncomputable def body_b10 : Code := Try.f19.body.getD .skip
noncomputable def lc_b10_1 : Code := ((loops 0 body_b10).getD 0 (0, .skip)).2
theorem round_b10_1 (fu : Nat) (it : St RT den → Option (Int)) (k : Ex → St RT den → Option (Int)) c w : evCode E (pc_b10 fu) msk_b10 (lp_b10 fu) 1 lc_b10_1 (back_b10_1 c w) (after (msk_b10 1) (msk_b10 100001) 2 it k) = Bk_b10_1 fu c k w (fun w => it (back_b10_1 c w)) := by kernel_rfl
theorem lpok_b10_1 (fu : Nat) : ∀ s k r, (lp_b10 fu).lp 1 s k = some r → ∃ fuel, iter (msk_b10 1) (msk_b10 100001) s.objs.length (evCode E (pc_b10 fu) msk_b10 (lp_b10 fu) 1 lc_b10_1) fuel s k = some r :=
  handle_ok (ps := ps_b10_1) (os := os_b10_1) (conv := conv_b10_1) (B := Bk_b10_1 fu) (fu := fu) back_b10_1 (fun raw => by kernel_rfl) 2 (fun c w => by kernel_rfl) (round_b10_1 fu)
theorem lpok_b10 (fu : Nat) : LpOk E (pc_b10 fu) 0 msk_b10 (lp_b10 fu) (loops 0 body_b10) := lp_nil (loop_all 1 (by kernel_rfl) fun i hi => match i, hi with
  | 0, _ => by
    have h : (loops 0 body_b10).getD 0 (0, .skip) = (1, lc_b10_1) := by kernel_rfl
    rw [h]; exact lpok_b10_1 fu
  | i + 1, hi => absurd hi (by omega)) (by kernel_rfl)
def S_b10 (fu : Nat) (xs : List (D RT den)) : Option (Out RT den) := match xs with | [.agg [.int .i64 a0_1, .int .i64 a0_2, .int .i64 a0_3, .int .i64 a0_4, .rs za0_5 .impl_Entry na0_5 fa0_5, .int .i64 a0_6, .int .i64 a0_7, .rs za0_8 .i64 na0_8 fa0_8, .rs za0_9 .i64 na0_9 fa0_9, .rs za0_10 .i64 na0_10 fa0_10]] => some ⟨Int, F_impl_NodeFault fu (⟨a0_1, a0_2, a0_3, a0_4, (⟨za0_5, na0_5, fa0_5⟩ : (Sl S_impl_Entry)), a0_6, a0_7, (⟨za0_8, na0_8, fa0_8⟩ : (Sl Int)), (⟨za0_9, na0_9, fa0_9⟩ : (Sl Int)), (⟨za0_10, na0_10, fa0_10⟩ : (Sl Int))⟩ : S_impl_Node), enc_i64, fun _ => true⟩ | _ => none
theorem hpc_b10 (fu : Nat) : ∀ f xs o, pcf_b10 fu f xs = some o → ∀ y, o.x = some y → Good E Try.prog f xs (o.g y) := by
  intro f xs o h
  unfold pcf_b10 at h
  split at h
  · exact good_b2 fu xs o h
  · exact good_b1 fu xs o h
  · exact good_a30 fu xs o h
  · exact good_a31 fu xs o h
  · exact good_b0 fu xs o h
  · exact good_b3 fu xs o h
  · split at h
    · rename_i o' ho; cases h; exact good_b6 fu xs _ ho
    · exact good_b9 fu xs o h
  · cases h
theorem goodv_b10 (fu : Nat) (t_0 : S_impl_Node) (y : Int) (hy : F_impl_NodeFault fu t_0 = some y) : Good E Try.prog 19 [(.agg [(.int .i64 t_0.Id), (.int .i64 t_0.Peers), (.int .i64 t_0.Term), (.int .i64 t_0.Voted), (.rs t_0.Log.z .impl_Entry t_0.Log.n t_0.Log.f), (.int .i64 t_0.Role), (.int .i64 t_0.Commit), (.rs t_0.Votes.z .i64 t_0.Votes.n t_0.Votes.f), (.rs t_0.Next.z .i64 t_0.Next.n t_0.Next.f), (.rs t_0.Match.z .i64 t_0.Match.n t_0.Match.f)])] (enc_i64 y) :=
  fun_good E_ok (pc_good (pc := pc_b10 fu) (hpc_b10 fu) hpx0) (fn := Try.f19) (c := body_b10) (out := out_i64) (y := y) (by kernel_rfl) (by kernel_rfl) (by kernel_rfl) (lpok_b10 fu) (fun d hd => out_i64_enc d _ hd) ((ev_b10 fu t_0).trans hy)
theorem good_b10 (fu : Nat) : ∀ xs o, S_b10 fu xs = some o → ∀ y, o.x = some y → Good E Try.prog 19 xs (o.g y) := by
  intro xs o h y hy
  unfold S_b10 at h
  split at h
  · rename_i a0_1 a0_2 a0_3 a0_4 za0_5 na0_5 fa0_5 a0_6 a0_7 za0_8 na0_8 fa0_8 za0_9 na0_9 fa0_9 za0_10 na0_10 fa0_10
    cases h
    exact goodv_b10 fu (⟨a0_1, a0_2, a0_3, a0_4, (⟨za0_5, na0_5, fa0_5⟩ : (Sl S_impl_Entry)), a0_6, a0_7, (⟨za0_8, na0_8, fa0_8⟩ : (Sl Int)), (⟨za0_9, na0_9, fa0_9⟩ : (Sl Int)), (⟨za0_10, na0_10, fa0_10⟩ : (Sl Int))⟩ : S_impl_Node) y hy
  · cases h

/-! impl.leadFault -/
def F_impl_leadFault (fu : Nat) (n_0 : S_impl_Node) : Option (Int) :=
  ((F_impl_NodeFault fu n_0).bind fun y157 => (((bif (y157 == 0) then (some (n_0.Role != 2)) else (some false)) : Option Bool).bind fun m158 => (bif m158 then (some 10) else (some y157))))
def pcf_b11 (fu : Nat) (f : Nat) (xs : List (D RT den)) : Option (Out RT den) := match f with | 19 => S_b10 fu xs | _ => none
def pc_b11 (fu : Nat) : Pc RT den := ⟨pcf_b11 fu, fun _ => false, fun _ => false, pcd0, pcd0, pcx0⟩
def msk_b11 (b : Nat) : List Nat := match b with | 200002 => [12] | _ => []
def lp_b11 (fu : Nat) : Lp RT den (Int) := ⟨fun b s k => none, inl0⟩
theorem ev_b11 (fu : Nat) (n_0 : S_impl_Node) : evFun E (pc_b11 fu) msk_b11 (lp_b11 fu) out_i64 31 [(.agg [(.int .i64 n_0.Id), (.int .i64 n_0.Peers), (.int .i64 n_0.Term), (.int .i64 n_0.Voted), (.rs n_0.Log.z .impl_Entry n_0.Log.n n_0.Log.f), (.int .i64 n_0.Role), (.int .i64 n_0.Commit), (.rs n_0.Votes.z .i64 n_0.Votes.n n_0.Votes.f), (.rs n_0.Next.z .i64 n_0.Next.n n_0.Next.f), (.rs n_0.Match.z .i64 n_0.Match.n n_0.Match.f)])] = F_impl_leadFault fu n_0 := by kernel_rfl
noncomputable def body_b11 : Code := Try.f31.body.getD .skip
theorem lpok_b11 (fu : Nat) : LpOk E (pc_b11 fu) 0 msk_b11 (lp_b11 fu) (loops 0 body_b11) := lp_nil (loop_nil (by kernel_rfl)) (by kernel_rfl)
def S_b11 (fu : Nat) (xs : List (D RT den)) : Option (Out RT den) := match xs with | [.agg [.int .i64 a0_1, .int .i64 a0_2, .int .i64 a0_3, .int .i64 a0_4, .rs za0_5 .impl_Entry na0_5 fa0_5, .int .i64 a0_6, .int .i64 a0_7, .rs za0_8 .i64 na0_8 fa0_8, .rs za0_9 .i64 na0_9 fa0_9, .rs za0_10 .i64 na0_10 fa0_10]] => some ⟨Int, F_impl_leadFault fu (⟨a0_1, a0_2, a0_3, a0_4, (⟨za0_5, na0_5, fa0_5⟩ : (Sl S_impl_Entry)), a0_6, a0_7, (⟨za0_8, na0_8, fa0_8⟩ : (Sl Int)), (⟨za0_9, na0_9, fa0_9⟩ : (Sl Int)), (⟨za0_10, na0_10, fa0_10⟩ : (Sl Int))⟩ : S_impl_Node), enc_i64, fun _ => true⟩ | _ => none
theorem hpc_b11 (fu : Nat) : ∀ f xs o, pcf_b11 fu f xs = some o → ∀ y, o.x = some y → Good E Try.prog f xs (o.g y) := by
  intro f xs o h
  unfold pcf_b11 at h
  split at h
  · exact good_b10 fu xs o h
  · cases h
theorem goodv_b11 (fu : Nat) (n_0 : S_impl_Node) (y : Int) (hy : F_impl_leadFault fu n_0 = some y) : Good E Try.prog 31 [(.agg [(.int .i64 n_0.Id), (.int .i64 n_0.Peers), (.int .i64 n_0.Term), (.int .i64 n_0.Voted), (.rs n_0.Log.z .impl_Entry n_0.Log.n n_0.Log.f), (.int .i64 n_0.Role), (.int .i64 n_0.Commit), (.rs n_0.Votes.z .i64 n_0.Votes.n n_0.Votes.f), (.rs n_0.Next.z .i64 n_0.Next.n n_0.Next.f), (.rs n_0.Match.z .i64 n_0.Match.n n_0.Match.f)])] (enc_i64 y) :=
  fun_good E_ok (pc_good (pc := pc_b11 fu) (hpc_b11 fu) hpx0) (fn := Try.f31) (c := body_b11) (out := out_i64) (y := y) (by kernel_rfl) (by kernel_rfl) (by kernel_rfl) (lpok_b11 fu) (fun d hd => out_i64_enc d _ hd) ((ev_b11 fu n_0).trans hy)
theorem good_b11 (fu : Nat) : ∀ xs o, S_b11 fu xs = some o → ∀ y, o.x = some y → Good E Try.prog 31 xs (o.g y) := by
  intro xs o h y hy
  unfold S_b11 at h
  split at h
  · rename_i a0_1 a0_2 a0_3 a0_4 za0_5 na0_5 fa0_5 a0_6 a0_7 za0_8 na0_8 fa0_8 za0_9 na0_9 fa0_9 za0_10 na0_10 fa0_10
    cases h
    exact goodv_b11 fu (⟨a0_1, a0_2, a0_3, a0_4, (⟨za0_5, na0_5, fa0_5⟩ : (Sl S_impl_Entry)), a0_6, a0_7, (⟨za0_8, na0_8, fa0_8⟩ : (Sl Int)), (⟨za0_9, na0_9, fa0_9⟩ : (Sl Int)), (⟨za0_10, na0_10, fa0_10⟩ : (Sl Int))⟩ : S_impl_Node) y hy
  · cases h

/-! impl.SpreadNode -/
def F_impl_SpreadNode_U_i0_B0 {ρ : Type} (fu : Nat) (t8_0 : Int) (o0_2 : Int) (o0_3 : Int) (o0_4 : Int) (o0_5 : Int) (o0_6 : Int) (o0_7 : Int) (o0_8 : Int) (o1_9 : Int) (o1_10 : Int) (o1_11 : Int) (o1_12 : Int) (o1_13 : (Sl S_impl_Entry)) (o1_14 : Int) (o1_15 : Int) (o1_16 : (Sl Int)) (o1_17 : (Sl Int)) (o1_18 : (Sl Int)) (o2_19 : Int) (o2_20 : Int) (o2_21 : Int) (o2_22 : Int) (o2_23 : Nat) (o2_24 : Int) (o2_25 : Int) (o2_26 : Nat) (o2_27 : Nat) (o2_28 : Nat) (on4_30 : Nat) (of4_31 : (Nat → S_impl_Entry)) (on5_32 : Nat) (of5_33 : (Nat → Int)) (on6_34 : Nat) (of6_35 : (Nat → Int)) (on7_36 : Nat) (of7_37 : (Nat → Int)) (k0 : Nat → Nat → Nat → (Nat → S_impl_Mail) → Option ρ) (t9_1 : Int) (o3_29 : Nat) (on8_38 : Nat) (op8_39 : Nat) (of8_40 : (Nat → S_impl_Mail)) (go : Int → Nat → Nat → Nat → (Nat → S_impl_Mail) → Option ρ) : Option ρ :=
  (bif (decide (t9_1 < t8_0)) then (bif (t9_1 != o2_19) then ((bif (decide (0 ≤ t9_1) && decide ((Int.toNat t9_1) < o2_27)) then some () else none : Option Unit).bind fun _ => ((bif (decide ((0 : Int) ≤ (IntKind.wrap .i64 ((of6_35 (Int.toNat t9_1)) - 1))) &&
    decide ((Int.toNat (IntKind.wrap .i64 ((of6_35 (Int.toNat t9_1)) - 1))) ≤ o1_13.n)) then some () else none : Option Unit).bind fun _ => ((F_impl_last fu (⟨o1_13.z, ((Int.toNat (IntKind.wrap .i64 ((of6_35 (Int.toNat t9_1)) - 1))) - 0),
    (fun i => o1_13.f (0 + i))⟩ : (Sl S_impl_Entry))).bind fun y150 => ((F_impl_size_impl_Entry fu o1_13).bind fun y151 => ((bif (decide (0 ≤ (IntKind.wrap .i64 ((of6_35 (Int.toNat t9_1)) - 1))) &&
    (decide ((IntKind.wrap .i64 ((of6_35 (Int.toNat t9_1)) - 1)) ≤ (minInt (IntKind.wrap .i64 ((IntKind.wrap .i64 ((of6_35 (Int.toNat t9_1)) - 1)) + 4)) y151)) && decide ((Int.toNat (minInt (IntKind.wrap .i64 ((IntKind.wrap .i64 ((of6_35 (Int.toNat t9_1)) - 1)) + 4)) y151)) ≤ o1_13.n))) then
    some () else none : Option Unit).bind fun _ => ((F_slices_Clone_impl_Entry_impl_Entry_H fu (⟨o1_13.z, ((Int.toNat (minInt (IntKind.wrap .i64 ((IntKind.wrap .i64 ((of6_35 (Int.toNat t9_1)) - 1)) + 4)) y151)) - (Int.toNat (IntKind.wrap .i64 ((of6_35 (Int.toNat t9_1)) - 1)))),
    (fun i => o1_13.f ((Int.toNat (IntKind.wrap .i64 ((of6_35 (Int.toNat t9_1)) - 1))) + i))⟩ : (Sl S_impl_Entry))).bind fun y152 => (bif (decide (o3_29 ≤ op8_39) && (decide ((o3_29 + 1) ≤ 9223372036854775807) &&
    decide ((o3_29 + 1) * 88 ≤ 140737488355328))) then (go (IntKind.wrap .i64 (t9_1 + 1)) (o3_29 + 1) (o3_29 + 1) (o3_29 + 1) (fun i => if i < o3_29 then (of8_40 i) else (⟨3, o1_9,
    t9_1, o1_11, (IntKind.wrap .i64 ((of6_35 (Int.toNat t9_1)) - 1)), y150.Term, o1_15, false, (⟨none, y152.n, y152.f⟩ : (Sl S_impl_Entry))⟩ : S_impl_Mail))) else none))))))) else
    (go (IntKind.wrap .i64 (t9_1 + 1)) o3_29 on8_38 op8_39 of8_40)) else (k0 o3_29 on8_38 op8_39 of8_40))
def F_impl_SpreadNode_U (fu : Nat) (n_0 : S_impl_Node) : Option (Int × Int × Int × Int × Int × Nat × Int × Int × Nat × Nat × Nat × Nat × Nat × (Nat → S_impl_Entry) × Nat × (Nat → Int) × Nat × (Nat → Int) × Nat × (Nat → Int) × Nat × (Nat → S_impl_Mail)) :=
  ((F_impl_leadFault fu n_0).bind fun y148 => (bif (y148 != 0) then (bif (decide ((0 : Nat) = 0) && true) then (some (y148, 0, 0, 0, 0, 0, 0, 0, 0, 0, 0, 0, 0, (fun _ => dflt .impl_Entry),
    0, (fun _ => dflt .i64), 0, (fun _ => dflt .i64), 0, (fun _ => dflt .i64), 0, (fun _ => dflt .impl_Mail))) else none) else ((F_impl_Node_copied_H fu n_0).bind fun y149 => (L (fun w0 go0 =>
    F_impl_SpreadNode_U_i0_B0 fu y149.Peers 0 0 0 0 0 0 0 n_0.Id n_0.Peers n_0.Term n_0.Voted n_0.Log n_0.Role n_0.Commit n_0.Votes n_0.Next n_0.Match y149.Id y149.Peers y149.Term y149.Voted y149.Log.n y149.Role y149.Commit y149.Votes.n y149.Next.n y149.Match.n y149.Log.n y149.Log.f y149.Votes.n y149.Votes.f y149.Next.n y149.Next.f y149.Match.n y149.Match.f (fun z153 z154 z155 z156 =>
    (bif (decide (z153 ≤ z155) && true) then (bif (decide (z153 = z153) && true) then (some (0, y149.Id, y149.Peers, y149.Term, y149.Voted, y149.Log.n, y149.Role, y149.Commit,
    y149.Votes.n, y149.Next.n, y149.Match.n, z153, y149.Log.n, y149.Log.f, y149.Votes.n, y149.Votes.f, y149.Next.n, y149.Next.f, y149.Match.n, y149.Match.f, z153, z156)) else none) else
    none)) w0.1 w0.2.1 w0.2.2.1 w0.2.2.2.1 w0.2.2.2.2 (fun q0 q1 q2 q3 q4 => go0 (q0, q1, q2, q3, q4))) fu ((0, 0, 0, 0, (fun _ => dflt .impl_Mail)) : Int × Nat × Nat × Nat × (Nat → S_impl_Mail))))))
def pcf_b12 (fu : Nat) (f : Nat) (xs : List (D RT den)) : Option (Out RT den) := match f with | 31 => S_b11 fu xs | 35 => S_b2 fu xs | 37 => S_b1 fu xs | _ => none
def pcx_b12 (fu : Nat) (f : Nat) (xs : List (D RT den)) (ins : List (Ob RT den)) : Option (OutX RT den) := match f with | 32 => S_a29 fu xs ins | 36 => S_a27 fu xs ins | _ => none
def pcd_b12 : Nat → Bool := fun _ => false
def pc_b12 (fu : Nat) : Pc RT den := ⟨pcf_b12 fu, fun f => match f with | 32 => true | 36 => true | _ => false, fun _ => false, pcd_b12, pcd0, pcx_b12 fu⟩
def msk_b12i0i0 (b : Nat) : List Nat := []
noncomputable def body_b12i0i0 : Code := Try.f34.body.getD .skip
def msk_b12i0 (b : Nat) : List Nat := match b with | 0 => [2, 3, 4, 5, 6, 7, 10, 11, 12, 13, 14, 15, 16, 17, 18, 19, 20, 21] | 100000 => [0, 1, 2, 3, 4, 5, 6, 7, 8, 9, 10, 11, 12, 13, 14, 15, 16, 17, 18, 19, 20, 21] | 300000 => [1003000, 5000008] | 600004 => [2000] | 800004 => [2, 3, 5, 6, 7, 10, 11, 12, 13, 14, 15, 16, 17, 18, 19, 20, 21] | _ => []
noncomputable def body_b12i0 : Code := Try.f33.body.getD .skip
def msk_b12 (b : Nat) : List Nat := match b with | 600005 => [1000] | 800005 => [0, 3, 6, 7, 8, 9, 10, 11, 12, 13, 14, 15, 16, 17, 18, 19] | _ => []
def ps_b12i0_0 : List (Pat RT) := [.flat (.ref 2 0), .fn 34 [.flat (.ref 2 0), .flat (.ref 1 0), .flat (.ref 3 0)], .flat .q, .flat .q, .flat .q, .flat .q, .flat .q, .flat .q, .flat (.int .i64), .flat (.int .i64), .flat .q, .flat .q, .flat .q, .flat .q, .flat .q, .flat .q, .flat .q, .flat .q, .flat .q, .flat .q, .flat .q, .flat .q, .flat .q, .flat (.ref 1 0), .flat (.ref 0 0), .flat .q, .flat (.ref 2 0), .flat (.ref 3 0), .flat .q, .flat .q, .flat .q, .flat .q, .flat .q, .flat .q, .flat .q, .flat .q, .flat .q, .fn 34 [.flat (.ref 2 0), .flat (.ref 1 0), .flat (.ref 3 0)], .flat .q, .flat .q, .flat .q, .flat .q]
def os_b12i0_0 : List (OP RT) := [.box false [(.int .i64), (.int .i64), (.int .i64), (.int .i64), (.int .i64), (.emp true .impl_Entry), (.int .i64), (.int .i64), (.emp true .i64), (.emp true .i64), (.emp true .i64), (.emp true .impl_Mail)], .box false [(.int .i64), (.int .i64), (.int .i64), (.int .i64), (.rs .impl_Entry), (.int .i64), (.int .i64), (.rs .i64), (.rs .i64), (.rs .i64)], .box false [(.int .i64), (.int .i64), (.int .i64), (.int .i64), (.os 4), (.int .i64), (.int .i64), (.os 5), (.os 6), (.os 7)], .box false [(.os 8)], .row false .impl_Entry, .row false .i64, .row false .i64, .row false .i64, .deep false .impl_Mail]
def conv_b12i0_0 (r : Raw den ps_b12i0_0 os_b12i0_0) : (Int × Int × Int × Int × Int × Int × Int × Int × Int × Int × Int × Int × (Sl S_impl_Entry) × Int × Int × (Sl Int) × (Sl Int) × (Sl Int) × Int × Int × Int × Int × Nat × Int × Int × Nat × Nat × Nat × Nat × (Nat → S_impl_Entry) × Nat × (Nat → Int) × Nat × (Nat → Int) × Nat × (Nat → Int)) × (Int × Nat × Nat × Nat × (Nat → S_impl_Mail)) := ((r.1.2.2.2.2.2.2.2.2.1, r.2.1.1, r.2.1.2.1, r.2.1.2.2.1, r.2.1.2.2.2.1, r.2.1.2.2.2.2.1, r.2.1.2.2.2.2.2.2.1, r.2.1.2.2.2.2.2.2.2.1, r.2.2.1.1, r.2.2.1.2.1, r.2.2.1.2.2.1, r.2.2.1.2.2.2.1, r.2.2.1.2.2.2.2.1, r.2.2.1.2.2.2.2.2.1, r.2.2.1.2.2.2.2.2.2.1, r.2.2.1.2.2.2.2.2.2.2.1, r.2.2.1.2.2.2.2.2.2.2.2.1, r.2.2.1.2.2.2.2.2.2.2.2.2.1, r.2.2.2.1.1, r.2.2.2.1.2.1, r.2.2.2.1.2.2.1, r.2.2.2.1.2.2.2.1, r.2.2.2.1.2.2.2.2.1, r.2.2.2.1.2.2.2.2.2.1, r.2.2.2.1.2.2.2.2.2.2.1, r.2.2.2.1.2.2.2.2.2.2.2.1, r.2.2.2.1.2.2.2.2.2.2.2.2.1, r.2.2.2.1.2.2.2.2.2.2.2.2.2.1, r.2.2.2.2.2.1.1, r.2.2.2.2.2.1.2, r.2.2.2.2.2.2.1.1, r.2.2.2.2.2.2.1.2, r.2.2.2.2.2.2.2.1.1, r.2.2.2.2.2.2.2.1.2, r.2.2.2.2.2.2.2.2.1.1, r.2.2.2.2.2.2.2.2.1.2), (r.1.2.2.2.2.2.2.2.2.2.1, r.2.2.2.2.1.1, r.2.2.2.2.2.2.2.2.2.1.1, r.2.2.2.2.2.2.2.2.2.1.2.1, r.2.2.2.2.2.2.2.2.2.1.2.2))
def back_b12i0_0 (c : Int × Int × Int × Int × Int × Int × Int × Int × Int × Int × Int × Int × (Sl S_impl_Entry) × Int × Int × (Sl Int) × (Sl Int) × (Sl Int) × Int × Int × Int × Int × Nat × Int × Int × Nat × Nat × Nat × Nat × (Nat → S_impl_Entry) × Nat × (Nat → Int) × Nat × (Nat → Int) × Nat × (Nat → Int)) (w : Int × Nat × Nat × Nat × (Nat → S_impl_Mail)) : St RT den := ⟨[(.ref 2 0), (.fn 34 [(.ref 2 0), (.ref 1 0), (.ref 3 0)]), .q, .q, .q, .q, .q, .q, (.int .i64 c.1), (.int .i64 w.1), .q, .q, .q, .q, .q, .q, .q, .q, .q, .q, .q, .q, .q, (.ref 1 0), (.ref 0 0), .q, (.ref 2 0), (.ref 3 0), .q, .q, .q, .q, .q, .q, .q, .q, .q, (.fn 34 [(.ref 2 0), (.ref 1 0), (.ref 3 0)]), .q, .q, .q, .q], [(.box false [(.int .i64 c.2.1), (.int .i64 c.2.2.1), (.int .i64 c.2.2.2.1), (.int .i64 c.2.2.2.2.1), (.int .i64 c.2.2.2.2.2.1), (.emp true .impl_Entry), (.int .i64 c.2.2.2.2.2.2.1), (.int .i64 c.2.2.2.2.2.2.2.1), (.emp true .i64), (.emp true .i64), (.emp true .i64), (.emp true .impl_Mail)]), (.box false [(.int .i64 c.2.2.2.2.2.2.2.2.1), (.int .i64 c.2.2.2.2.2.2.2.2.2.1), (.int .i64 c.2.2.2.2.2.2.2.2.2.2.1), (.int .i64 c.2.2.2.2.2.2.2.2.2.2.2.1), (.rs c.2.2.2.2.2.2.2.2.2.2.2.2.1.z .impl_Entry c.2.2.2.2.2.2.2.2.2.2.2.2.1.n c.2.2.2.2.2.2.2.2.2.2.2.2.1.f), (.int .i64 c.2.2.2.2.2.2.2.2.2.2.2.2.2.1), (.int .i64 c.2.2.2.2.2.2.2.2.2.2.2.2.2.2.1), (.rs c.2.2.2.2.2.2.2.2.2.2.2.2.2.2.2.1.z .i64 c.2.2.2.2.2.2.2.2.2.2.2.2.2.2.2.1.n c.2.2.2.2.2.2.2.2.2.2.2.2.2.2.2.1.f), (.rs c.2.2.2.2.2.2.2.2.2.2.2.2.2.2.2.2.1.z .i64 c.2.2.2.2.2.2.2.2.2.2.2.2.2.2.2.2.1.n c.2.2.2.2.2.2.2.2.2.2.2.2.2.2.2.2.1.f), (.rs c.2.2.2.2.2.2.2.2.2.2.2.2.2.2.2.2.2.1.z .i64 c.2.2.2.2.2.2.2.2.2.2.2.2.2.2.2.2.2.1.n c.2.2.2.2.2.2.2.2.2.2.2.2.2.2.2.2.2.1.f)]), (.box false [(.int .i64 c.2.2.2.2.2.2.2.2.2.2.2.2.2.2.2.2.2.2.1), (.int .i64 c.2.2.2.2.2.2.2.2.2.2.2.2.2.2.2.2.2.2.2.1), (.int .i64 c.2.2.2.2.2.2.2.2.2.2.2.2.2.2.2.2.2.2.2.2.1), (.int .i64 c.2.2.2.2.2.2.2.2.2.2.2.2.2.2.2.2.2.2.2.2.2.1), (.os 4 c.2.2.2.2.2.2.2.2.2.2.2.2.2.2.2.2.2.2.2.2.2.2.1), (.int .i64 c.2.2.2.2.2.2.2.2.2.2.2.2.2.2.2.2.2.2.2.2.2.2.2.1), (.int .i64 c.2.2.2.2.2.2.2.2.2.2.2.2.2.2.2.2.2.2.2.2.2.2.2.2.1), (.os 5 c.2.2.2.2.2.2.2.2.2.2.2.2.2.2.2.2.2.2.2.2.2.2.2.2.2.1), (.os 6 c.2.2.2.2.2.2.2.2.2.2.2.2.2.2.2.2.2.2.2.2.2.2.2.2.2.2.1), (.os 7 c.2.2.2.2.2.2.2.2.2.2.2.2.2.2.2.2.2.2.2.2.2.2.2.2.2.2.2.1)]), (.box false [(.os 8 w.2.1)]), (.row false .impl_Entry c.2.2.2.2.2.2.2.2.2.2.2.2.2.2.2.2.2.2.2.2.2.2.2.2.2.2.2.2.1 c.2.2.2.2.2.2.2.2.2.2.2.2.2.2.2.2.2.2.2.2.2.2.2.2.2.2.2.2.2.1), (.row false .i64 c.2.2.2.2.2.2.2.2.2.2.2.2.2.2.2.2.2.2.2.2.2.2.2.2.2.2.2.2.2.2.1 c.2.2.2.2.2.2.2.2.2.2.2.2.2.2.2.2.2.2.2.2.2.2.2.2.2.2.2.2.2.2.2.1), (.row false .i64 c.2.2.2.2.2.2.2.2.2.2.2.2.2.2.2.2.2.2.2.2.2.2.2.2.2.2.2.2.2.2.2.2.1 c.2.2.2.2.2.2.2.2.2.2.2.2.2.2.2.2.2.2.2.2.2.2.2.2.2.2.2.2.2.2.2.2.2.1), (.row false .i64 c.2.2.2.2.2.2.2.2.2.2.2.2.2.2.2.2.2.2.2.2.2.2.2.2.2.2.2.2.2.2.2.2.2.2.1 c.2.2.2.2.2.2.2.2.2.2.2.2.2.2.2.2.2.2.2.2.2.2.2.2.2.2.2.2.2.2.2.2.2.2.2), (.deep false .impl_Mail w.2.2.1 w.2.2.2.1 w.2.2.2.2)]⟩
def Bk_b12i0_0 {ρ : Type} (fu : Nat) (c : Int × Int × Int × Int × Int × Int × Int × Int × Int × Int × Int × Int × (Sl S_impl_Entry) × Int × Int × (Sl Int) × (Sl Int) × (Sl Int) × Int × Int × Int × Int × Nat × Int × Int × Nat × Nat × Nat × Nat × (Nat → S_impl_Entry) × Nat × (Nat → Int) × Nat × (Nat → Int) × Nat × (Nat → Int)) (k : Ex → St RT den → Option ρ) (w : Int × Nat × Nat × Nat × (Nat → S_impl_Mail)) (go : (Int × Nat × Nat × Nat × (Nat → S_impl_Mail)) → Option ρ) : Option ρ := F_impl_SpreadNode_U_i0_B0 fu c.1 c.2.1 c.2.2.1 c.2.2.2.1 c.2.2.2.2.1 c.2.2.2.2.2.1 c.2.2.2.2.2.2.1 c.2.2.2.2.2.2.2.1 c.2.2.2.2.2.2.2.2.1 c.2.2.2.2.2.2.2.2.2.1 c.2.2.2.2.2.2.2.2.2.2.1 c.2.2.2.2.2.2.2.2.2.2.2.1 c.2.2.2.2.2.2.2.2.2.2.2.2.1 c.2.2.2.2.2.2.2.2.2.2.2.2.2.1 c.2.2.2.2.2.2.2.2.2.2.2.2.2.2.1 c.2.2.2.2.2.2.2.2.2.2.2.2.2.2.2.1 c.2.2.2.2.2.2.2.2.2.2.2.2.2.2.2.2.1 c.2.2.2.2.2.2.2.2.2.2.2.2.2.2.2.2.2.1 c.2.2.2.2.2.2.2.2.2.2.2.2.2.2.2.2.2.2.1 c.2.2.2.2.2.2.2.2.2.2.2.2.2.2.2.2.2.2.2.1 c.2.2.2.2.2.2.2.2.2.2.2.2.2.2.2.2.2.2.2.2.1 c.2.2.2.2.2.2.2.2.2.2.2.2.2.2.2.2.2.2.2.2.2.1 c.2.2.2.2.2.2.2.2.2.2.2.2.2.2.2.2.2.2.2.2.2.2.1 c.2.2.2.2.2.2.2.2.2.2.2.2.2.2.2.2.2.2.2.2.2.2.2.1 c.2.2.2.2.2.2.2.2.2.2.2.2.2.2.2.2.2.2.2.2.2.2.2.2.1 c.2.2.2.2.2.2.2.2.2.2.2.2.2.2.2.2.2.2.2.2.2.2.2.2.2.1 c.2.2.2.2.2.2.2.2.2.2.2.2.2.2.2.2.2.2.2.2.2.2.2.2.2.2.1 c.2.2.2.2.2.2.2.2.2.2.2.2.2.2.2.2.2.2.2.2.2.2.2.2.2.2.2.1 c.2.2.2.2.2.2.2.2.2.2.2.2.2.2.2.2.2.2.2.2.2.2.2.2.2.2.2.2.1 c.2.2.2.2.2.2.2.2.2.2.2.2.2.2.2.2.2.2.2.2.2.2.2.2.2.2.2.2.2.1 c.2.2.2.2.2.2.2.2.2.2.2.2.2.2.2.2.2.2.2.2.2.2.2.2.2.2.2.2.2.2.1 c.2.2.2.2.2.2.2.2.2.2.2.2.2.2.2.2.2.2.2.2.2.2.2.2.2.2.2.2.2.2.2.1 c.2.2.2.2.2.2.2.2.2.2.2.2.2.2.2.2.2.2.2.2.2.2.2.2.2.2.2.2.2.2.2.2.1 c.2.2.2.2.2.2.2.2.2.2.2.2.2.2.2.2.2.2.2.2.2.2.2.2.2.2.2.2.2.2.2.2.2.1 c.2.2.2.2.2.2.2.2.2.2.2.2.2.2.2.2.2.2.2.2.2.2.2.2.2.2.2.2.2.2.2.2.2.2.1 c.2.2.2.2.2.2.2.2.2.2.2.2.2.2.2.2.2.2.2.2.2.2.2.2.2.2.2.2.2.2.2.2.2.2.2 (fun a0 a1 a2 a3 => k (.exit 0) ⟨[.q, .q, .q, .q, .q, .q, .q, .q, .q, .q, .q, .q, .q, .q, .q, .q, .q, .q, .q, .q, .q, .q, .q, (.ref 1 0), (.ref 0 0), .q, (.ref 2 0), (.ref 3 0), .q, .q, .q, .q, .q, .q, .q, .q, .q, (.fn 34 [(.ref 2 0), (.ref 1 0), (.ref 3 0)]), .q, .q, .q, .q], [(.box false [(.int .i64 c.2.1), (.int .i64 c.2.2.1), (.int .i64 c.2.2.2.1), (.int .i64 c.2.2.2.2.1), (.int .i64 c.2.2.2.2.2.1), (.emp true .impl_Entry), (.int .i64 c.2.2.2.2.2.2.1), (.int .i64 c.2.2.2.2.2.2.2.1), (.emp true .i64), (.emp true .i64), (.emp true .i64), (.emp true .impl_Mail)]), (.box false [(.int .i64 c.2.2.2.2.2.2.2.2.1), (.int .i64 c.2.2.2.2.2.2.2.2.2.1), (.int .i64 c.2.2.2.2.2.2.2.2.2.2.1), (.int .i64 c.2.2.2.2.2.2.2.2.2.2.2.1), (.rs c.2.2.2.2.2.2.2.2.2.2.2.2.1.z .impl_Entry c.2.2.2.2.2.2.2.2.2.2.2.2.1.n c.2.2.2.2.2.2.2.2.2.2.2.2.1.f), (.int .i64 c.2.2.2.2.2.2.2.2.2.2.2.2.2.1), (.int .i64 c.2.2.2.2.2.2.2.2.2.2.2.2.2.2.1), (.rs c.2.2.2.2.2.2.2.2.2.2.2.2.2.2.2.1.z .i64 c.2.2.2.2.2.2.2.2.2.2.2.2.2.2.2.1.n c.2.2.2.2.2.2.2.2.2.2.2.2.2.2.2.1.f), (.rs c.2.2.2.2.2.2.2.2.2.2.2.2.2.2.2.2.1.z .i64 c.2.2.2.2.2.2.2.2.2.2.2.2.2.2.2.2.1.n c.2.2.2.2.2.2.2.2.2.2.2.2.2.2.2.2.1.f), (.rs c.2.2.2.2.2.2.2.2.2.2.2.2.2.2.2.2.2.1.z .i64 c.2.2.2.2.2.2.2.2.2.2.2.2.2.2.2.2.2.1.n c.2.2.2.2.2.2.2.2.2.2.2.2.2.2.2.2.2.1.f)]), (.box false [(.int .i64 c.2.2.2.2.2.2.2.2.2.2.2.2.2.2.2.2.2.2.1), (.int .i64 c.2.2.2.2.2.2.2.2.2.2.2.2.2.2.2.2.2.2.2.1), (.int .i64 c.2.2.2.2.2.2.2.2.2.2.2.2.2.2.2.2.2.2.2.2.1), (.int .i64 c.2.2.2.2.2.2.2.2.2.2.2.2.2.2.2.2.2.2.2.2.2.1), (.os 4 c.2.2.2.2.2.2.2.2.2.2.2.2.2.2.2.2.2.2.2.2.2.2.1), (.int .i64 c.2.2.2.2.2.2.2.2.2.2.2.2.2.2.2.2.2.2.2.2.2.2.2.1), (.int .i64 c.2.2.2.2.2.2.2.2.2.2.2.2.2.2.2.2.2.2.2.2.2.2.2.2.1), (.os 5 c.2.2.2.2.2.2.2.2.2.2.2.2.2.2.2.2.2.2.2.2.2.2.2.2.2.1), (.os 6 c.2.2.2.2.2.2.2.2.2.2.2.2.2.2.2.2.2.2.2.2.2.2.2.2.2.2.1), (.os 7 c.2.2.2.2.2.2.2.2.2.2.2.2.2.2.2.2.2.2.2.2.2.2.2.2.2.2.2.1)]), (.box false [(.os 8 a0)]), (.row false .impl_Entry c.2.2.2.2.2.2.2.2.2.2.2.2.2.2.2.2.2.2.2.2.2.2.2.2.2.2.2.2.1 c.2.2.2.2.2.2.2.2.2.2.2.2.2.2.2.2.2.2.2.2.2.2.2.2.2.2.2.2.2.1), (.row false .i64 c.2.2.2.2.2.2.2.2.2.2.2.2.2.2.2.2.2.2.2.2.2.2.2.2.2.2.2.2.2.2.1 c.2.2.2.2.2.2.2.2.2.2.2.2.2.2.2.2.2.2.2.2.2.2.2.2.2.2.2.2.2.2.2.1), (.row false .i64 c.2.2.2.2.2.2.2.2.2.2.2.2.2.2.2.2.2.2.2.2.2.2.2.2.2.2.2.2.2.2.2.2.1 c.2.2.2.2.2.2.2.2.2.2.2.2.2.2.2.2.2.2.2.2.2.2.2.2.2.2.2.2.2.2.2.2.2.1), (.row false .i64 c.2.2.2.2.2.2.2.2.2.2.2.2.2.2.2.2.2.2.2.2.2.2.2.2.2.2.2.2.2.2.2.2.2.2.1 c.2.2.2.2.2.2.2.2.2.2.2.2.2.2.2.2.2.2.2.2.2.2.2.2.2.2.2.2.2.2.2.2.2.2.2), (.deep false .impl_Mail a1 a2 a3)]⟩) w.1 w.2.1 w.2.2.1 w.2.2.2.1 w.2.2.2.2 (fun q0 q1 q2 q3 q4 => go (q0, q1, q2, q3, q4))
def lp_b12i0i0 (fu : Nat) : Lp RT den (Int × Int × Int × Int × Int × Nat × Int × Int × Nat × Nat × Nat × Nat × Nat × (Nat → S_impl_Entry) × Nat × (Nat → Int) × Nat × (Nat → Int) × Nat × (Nat → Int) × Nat × (Nat → S_impl_Mail)) := ⟨fun b s k => none, inl0⟩
noncomputable def lp_b12i0 (fu : Nat) : Lp RT den (Int × Int × Int × Int × Int × Nat × Int × Int × Nat × Nat × Nat × Nat × Nat × (Nat → S_impl_Entry) × Nat × (Nat → Int) × Nat × (Nat → Int) × Nat × (Nat → Int) × Nat × (Nat → S_impl_Mail)) := ⟨fun b s k => match b with | 0 => handle ps_b12i0_0 os_b12i0_0 conv_b12i0_0 (Bk_b12i0_0 fu) fu s k | _ => none, inlL [(34, evCode E (pc_b12 fu) msk_b12i0i0 (lp_b12i0i0 fu) 0 body_b12i0i0)]⟩
noncomputable def lp_b12 (fu : Nat) : Lp RT den (Int × Int × Int × Int × Int × Nat × Int × Int × Nat × Nat × Nat × Nat × Nat × (Nat → S_impl_Entry) × Nat × (Nat → Int) × Nat × (Nat → Int) × Nat × (Nat → Int) × Nat × (Nat → S_impl_Mail)) := ⟨fun b s k => none, inlL [(33, evCode E (pc_b12 fu) msk_b12i0 (lp_b12i0 fu) 0 body_b12i0)]⟩
def pso_b12 : List (Pat RT) := [.agg [(.int .i64), (.int .i64), (.int .i64), (.int .i64), (.int .i64), (.os 0), (.int .i64), (.int .i64), (.os 1), (.os 2), (.os 3), (.os 4)]]
def oso_b12 : List (OP RT) := [.row false .impl_Entry, .row false .i64, .row false .i64, .row false .i64, .deep false .impl_Mail]
def conv_b12 (r : Raw den pso_b12 oso_b12) : Int × Int × Int × Int × Int × Nat × Int × Int × Nat × Nat × Nat × Nat × Nat × (Nat → S_impl_Entry) × Nat × (Nat → Int) × Nat × (Nat → Int) × Nat × (Nat → Int) × Nat × (Nat → S_impl_Mail) := (r.1.1.1, r.1.1.2.1, r.1.1.2.2.1, r.1.1.2.2.2.1, r.1.1.2.2.2.2.1, r.1.1.2.2.2.2.2.1, r.1.1.2.2.2.2.2.2.1, r.1.1.2.2.2.2.2.2.2.1, r.1.1.2.2.2.2.2.2.2.2.1, r.1.1.2.2.2.2.2.2.2.2.2.1, r.1.1.2.2.2.2.2.2.2.2.2.2.1, r.1.1.2.2.2.2.2.2.2.2.2.2.2.1, r.2.1.1, r.2.1.2, r.2.2.1.1, r.2.2.1.2, r.2.2.2.1.1, r.2.2.2.1.2, r.2.2.2.2.1.1, r.2.2.2.2.1.2, r.2.2.2.2.2.1.1, r.2.2.2.2.2.1.2.2)
def enc_b12 (y : Int × Int × Int × Int × Int × Nat × Int × Int × Nat × Nat × Nat × Nat × Nat × (Nat → S_impl_Entry) × Nat × (Nat → Int) × Nat × (Nat → Int) × Nat × (Nat → Int) × Nat × (Nat → S_impl_Mail)) : D RT den × List (Ob RT den) := ((.agg [(.int .i64 y.1), (.int .i64 y.2.1), (.int .i64 y.2.2.1), (.int .i64 y.2.2.2.1), (.int .i64 y.2.2.2.2.1), (.os 0 y.2.2.2.2.2.1), (.int .i64 y.2.2.2.2.2.2.1), (.int .i64 y.2.2.2.2.2.2.2.1), (.os 1 y.2.2.2.2.2.2.2.2.1), (.os 2 y.2.2.2.2.2.2.2.2.2.1), (.os 3 y.2.2.2.2.2.2.2.2.2.2.1), (.os 4 y.2.2.2.2.2.2.2.2.2.2.2.1)]), [(.row false .impl_Entry y.2.2.2.2.2.2.2.2.2.2.2.2.1 y.2.2.2.2.2.2.2.2.2.2.2.2.2.1), (.row false .i64 y.2.2.2.2.2.2.2.2.2.2.2.2.2.2.1 y.2.2.2.2.2.2.2.2.2.2.2.2.2.2.2.1), (.row false .i64 y.2.2.2.2.2.2.2.2.2.2.2.2.2.2.2.2.1 y.2.2.2.2.2.2.2.2.2.2.2.2.2.2.2.2.2.1), (.row false .i64 y.2.2.2.2.2.2.2.2.2.2.2.2.2.2.2.2.2.2.1 y.2.2.2.2.2.2.2.2.2.2.2.2.2.2.2.2.2.2.2.1), (.deep false .impl_Mail y.2.2.2.2.2.2.2.2.2.2.2.2.2.2.2.2.2.2.2.2.1 y.2.2.2.2.2.2.2.2.2.2.2.2.2.2.2.2.2.2.2.2.1 y.2.2.2.2.2.2.2.2.2.2.2.2.2.2.2.2.2.2.2.2.2)])
def chk_b12 (r : Raw den pso_b12 oso_b12) : Bool := (decide (r.2.2.2.2.2.1.2.1 = r.2.2.2.2.2.1.1) && true)
def raw_b12 (r : Raw den pso_b12 oso_b12) : St RT den := ⟨[(.agg [(.int .i64 r.1.1.1), (.int .i64 r.1.1.2.1), (.int .i64 r.1.1.2.2.1), (.int .i64 r.1.1.2.2.2.1), (.int .i64 r.1.1.2.2.2.2.1), (.os 0 r.1.1.2.2.2.2.2.1), (.int .i64 r.1.1.2.2.2.2.2.2.1), (.int .i64 r.1.1.2.2.2.2.2.2.2.1), (.os 1 r.1.1.2.2.2.2.2.2.2.2.1), (.os 2 r.1.1.2.2.2.2.2.2.2.2.2.1), (.os 3 r.1.1.2.2.2.2.2.2.2.2.2.2.1), (.os 4 r.1.1.2.2.2.2.2.2.2.2.2.2.2.1)])], [(.row false .impl_Entry r.2.1.1 r.2.1.2), (.row false .i64 r.2.2.1.1 r.2.2.1.2), (.row false .i64 r.2.2.2.1.1 r.2.2.2.1.2), (.row false .i64 r.2.2.2.2.1.1 r.2.2.2.2.1.2), (.deep false .impl_Mail r.2.2.2.2.2.1.1 r.2.2.2.2.2.1.2.1 r.2.2.2.2.2.1.2.2)]⟩
theorem chkd_b12 (r : Raw den pso_b12 oso_b12) (h : chk_b12 r = true) : raw_b12 r = ⟨[(enc_b12 (conv_b12 r)).1], (enc_b12 (conv_b12 r)).2⟩ := by
  simp only [chk_b12, Bool.and_eq_true, decide_eq_true_eq, and_true] at h
  simp only [raw_b12, enc_b12, conv_b12, h]
def out_b12 (d : D RT den) (os : List (Ob RT den)) : Option (Int × Int × Int × Int × Int × Nat × Int × Int × Nat × Nat × Nat × Nat × Nat × (Nat → S_impl_Entry) × Nat × (Nat → Int) × Nat × (Nat → Int) × Nat × (Nat → Int) × Nat × (Nat → S_impl_Mail)) := (unSt pso_b12 oso_b12 ⟨[d], os⟩).bind fun v => bif chk_b12 v.1 then some (conv_b12 v.1) else none
theorem out_b12_enc (d : D RT den) (os : List (Ob RT den)) (y : Int × Int × Int × Int × Int × Nat × Int × Int × Nat × Nat × Nat × Nat × Nat × (Nat → S_impl_Entry) × Nat × (Nat → Int) × Nat × (Nat → Int) × Nat × (Nat → Int) × Nat × (Nat → S_impl_Mail)) (h : out_b12 d os = some y) : d = (enc_b12 y).1 ∧ os = (enc_b12 y).2 :=
  outU (conv := conv_b12) (enc := enc_b12) (chk := chk_b12) (fun raw h => Eq.trans (by kernel_rfl) (chkd_b12 raw h)) h
theorem ev_b12 (fu : Nat) (n_0 : S_impl_Node) : evFunU E (pc_b12 fu) msk_b12 (lp_b12 fu) out_b12 9 [(.agg [(.int .i64 n_0.Id), (.int .i64 n_0.Peers), (.int .i64 n_0.Term), (.int .i64 n_0.Voted), (.rs n_0.Log.z .impl_Entry n_0.Log.n n_0.Log.f), (.int .i64 n_0.Role), (.int .i64 n_0.Commit), (.rs n_0.Votes.z .i64 n_0.Votes.n n_0.Votes.f), (.rs n_0.Next.z .i64 n_0.Next.n n_0.Next.f), (.rs n_0.Match.z .i64 n_0.Match.n n_0.Match.f)])] [] = F_impl_SpreadNode_U fu n_0 := by kernel_rfl
noncomputable def body_b12 : Code := Try.f9.body.getD .skip
theorem lpok_b12i0i0 (fu : Nat) : LpOk E (pc_b12 fu) 0 msk_b12i0i0 (lp_b12i0i0 fu) (loops 0 body_b12i0i0) := lp_nil (loop_nil (by kernel_rfl)) (by kernel_rfl)
noncomputable def lc_b12i0_0 : Code := ((loops 0 body_b12i0).getD 0 (0, .skip)).2
theorem round_b12i0_0 (fu : Nat) (it : St RT den → Option (Int × Int × Int × Int × Int × Nat × Int × Int × Nat × Nat × Nat × Nat × Nat × (Nat → S_impl_Entry) × Nat × (Nat → Int) × Nat × (Nat → Int) × Nat × (Nat → Int) × Nat × (Nat → S_impl_Mail))) (k : Ex → St RT den → Option (Int × Int × Int × Int × Int × Nat × Int × Int × Nat × Nat × Nat × Nat × Nat × (Nat → S_impl_Entry) × Nat × (Nat → Int) × Nat × (Nat → Int) × Nat × (Nat → Int) × Nat × (Nat → S_impl_Mail))) c w : evCode E (pc_b12 fu) msk_b12i0 (lp_b12i0 fu) 0 lc_b12i0_0 (back_b12i0_0 c w) (after (msk_b12i0 0) (msk_b12i0 100000) 9 it k) = Bk_b12i0_0 fu c k w (fun w => it (back_b12i0_0 c w)) := by kernel_rfl
theorem lpok_b12i0_0 (fu : Nat) : ∀ s k r, (lp_b12i0 fu).lp 0 s k = some r → ∃ fuel, iter (msk_b12i0 0) (msk_b12i0 100000) s.objs.length (evCode E (pc_b12 fu) msk_b12i0 (lp_b12i0 fu) 0 lc_b12i0_0) fuel s k = some r :=
  handle_ok (ps := ps_b12i0_0) (os := os_b12i0_0) (conv := conv_b12i0_0) (B := Bk_b12i0_0 fu) (fu := fu) back_b12i0_0 (fun raw => by kernel_rfl) 9 (fun c w => by kernel_rfl) (round_b12i0_0 fu)
theorem lpok_b12i0 (fu : Nat) : LpOk E (pc_b12 fu) 1 msk_b12i0 (lp_b12i0 fu) (loops 0 body_b12i0) := lp_all (loop_all 1 (by kernel_rfl) fun i hi => match i, hi with
  | 0, _ => by
    have h : (loops 0 body_b12i0).getD 0 (0, .skip) = (0, lc_b12i0_0) := by kernel_rfl
    rw [h]; exact lpok_b12i0_0 fu
  | i + 1, hi => absurd hi (by omega)) (site_cons 34 Try.f34 (by kernel_rfl) (by kernel_rfl) (by kernel_rfl) (by kernel_rfl) ((lpok_b12i0i0 fu).mono (Nat.le_of_ble_eq_true (by kernel_rfl))) site_nil) (by kernel_rfl)
theorem lpok_b12 (fu : Nat) : LpOk E (pc_b12 fu) 2 msk_b12 (lp_b12 fu) (loops 0 body_b12) := lp_all (loop_nil (by kernel_rfl)) (site_cons 33 Try.f33 (by kernel_rfl) (by kernel_rfl) (by kernel_rfl) (by kernel_rfl) ((lpok_b12i0 fu).mono (Nat.le_of_ble_eq_true (by kernel_rfl))) site_nil) (by kernel_rfl)
def S_b12 (fu : Nat) (xs : List (D RT den)) (ins : List (Ob RT den)) : Option (OutX RT den) := match xs, ins with | [.agg [.int .i64 a0_1, .int .i64 a0_2, .int .i64 a0_3, .int .i64 a0_4, .rs za0_5 .impl_Entry na0_5 fa0_5, .int .i64 a0_6, .int .i64 a0_7, .rs za0_8 .i64 na0_8 fa0_8, .rs za0_9 .i64 na0_9 fa0_9, .rs za0_10 .i64 na0_10 fa0_10]], [] => some ⟨Int × Int × Int × Int × Int × Nat × Int × Int × Nat × Nat × Nat × Nat × Nat × (Nat → S_impl_Entry) × Nat × (Nat → Int) × Nat × (Nat → Int) × Nat × (Nat → Int) × Nat × (Nat → S_impl_Mail), F_impl_SpreadNode_U fu (⟨a0_1, a0_2, a0_3, a0_4, (⟨za0_5, na0_5, fa0_5⟩ : (Sl S_impl_Entry)), a0_6, a0_7, (⟨za0_8, na0_8, fa0_8⟩ : (Sl Int)), (⟨za0_9, na0_9, fa0_9⟩ : (Sl Int)), (⟨za0_10, na0_10, fa0_10⟩ : (Sl Int))⟩ : S_impl_Node), enc_b12⟩ | _, _ => none
theorem hpc_b12 (fu : Nat) : ∀ f xs o, pcf_b12 fu f xs = some o → ∀ y, o.x = some y → Good E Try.prog f xs (o.g y) := by
  intro f xs o h
  unfold pcf_b12 at h
  split at h
  · exact good_b11 fu xs o h
  · exact good_b2 fu xs o h
  · exact good_b1 fu xs o h
  · cases h
theorem hpx_b12 (fu : Nat) : ∀ f xs ins o, pcx_b12 fu f xs ins = some o → ∀ y, o.x = some y → GoodXD E Try.prog (pcd_b12 f) f xs ins (o.g y).1 (o.g y).2 := by
  intro f xs ins o h
  unfold pcx_b12 at h
  split at h
  · exact good_a29 fu xs ins o h
  · exact good_a27 fu xs ins o h
  · cases h
theorem goodv_b12 (fu : Nat) (n_0 : S_impl_Node) (y : Int × Int × Int × Int × Int × Nat × Int × Int × Nat × Nat × Nat × Nat × Nat × (Nat → S_impl_Entry) × Nat × (Nat → Int) × Nat × (Nat → Int) × Nat × (Nat → Int) × Nat × (Nat → S_impl_Mail)) (hy : F_impl_SpreadNode_U fu n_0 = some y) : GoodD E Try.prog 9 [(.agg [(.int .i64 n_0.Id), (.int .i64 n_0.Peers), (.int .i64 n_0.Term), (.int .i64 n_0.Voted), (.rs n_0.Log.z .impl_Entry n_0.Log.n n_0.Log.f), (.int .i64 n_0.Role), (.int .i64 n_0.Commit), (.rs n_0.Votes.z .i64 n_0.Votes.n n_0.Votes.f), (.rs n_0.Next.z .i64 n_0.Next.n n_0.Next.f), (.rs n_0.Match.z .i64 n_0.Match.n n_0.Match.f)])] [] (enc_b12 y).1 (enc_b12 y).2 :=
  funU_good E_ok (pc_good (pc := pc_b12 fu) (hpc_b12 fu) (hpx_b12 fu)) (fn := Try.f9) (c := body_b12) (out := out_b12) (y := y) (by kernel_rfl) (by kernel_rfl) (by kernel_rfl) (lpok_b12 fu) (by kernel_rfl) (Nat.le_of_ble_eq_true (by kernel_rfl)) (Fulls.get 0 (And.intro (Nat.le_refl _) trivial)) (fun d os hd => out_b12_enc d os _ hd) ((ev_b12 fu n_0).trans hy)
theorem good_b12 (fu : Nat) : ∀ xs ins o, S_b12 fu xs ins = some o → ∀ y, o.x = some y → GoodD E Try.prog 9 xs ins (o.g y).1 (o.g y).2 := by
  intro xs ins o h y hy
  unfold S_b12 at h
  split at h
  · rename_i a0_1 a0_2 a0_3 a0_4 za0_5 na0_5 fa0_5 a0_6 a0_7 za0_8 na0_8 fa0_8 za0_9 na0_9 fa0_9 za0_10 na0_10 fa0_10
    cases h
    exact goodv_b12 fu (⟨a0_1, a0_2, a0_3, a0_4, (⟨za0_5, na0_5, fa0_5⟩ : (Sl S_impl_Entry)), a0_6, a0_7, (⟨za0_8, na0_8, fa0_8⟩ : (Sl Int)), (⟨za0_9, na0_9, fa0_9⟩ : (Sl Int)), (⟨za0_10, na0_10, fa0_10⟩ : (Sl Int))⟩ : S_impl_Node) y hy
  · cases h

/-! laws.markEntryS -/
def F_laws_markEntryS_L_B0 {ρ : Type} (fu : Nat) (a0_0 : Nat) (on0_3 : Nat) (k0 : Int → (Nat → S_impl_Entry) → Option ρ) (k1_1 : Int) (i5_2 : Int) (of0_4 : (Nat → S_impl_Entry)) (go : Int → Int → (Nat → S_impl_Entry) → Option ρ) : Option ρ :=
  (bif (decide (i5_2 < ((a0_0 : Nat) : Int))) then ((bif (decide (0 ≤ i5_2) && decide ((Int.toNat i5_2) < a0_0)) then some () else none : Option Unit).bind fun _ => ((bif (decide (0 ≤ i5_2) &&
    decide ((Int.toNat i5_2) < a0_0)) then some () else none : Option Unit).bind fun _ => ((bif (decide (0 ≤ i5_2) && decide ((Int.toNat i5_2) < a0_0)) then some () else none : Option Unit).bind fun _ =>
    ((bif (decide (0 ≤ i5_2) && decide ((Int.toNat i5_2) < a0_0)) then some () else none : Option Unit).bind fun _ => ((bif (decide (0 ≤ i5_2) && decide ((Int.toNat i5_2) < a0_0)) then
    some () else none : Option Unit).bind fun _ => ((bif (decide (0 ≤ i5_2) && decide ((Int.toNat i5_2) < a0_0)) then some () else none : Option Unit).bind fun _ => ((bif (decide (0 ≤ i5_2) &&
    decide ((Int.toNat i5_2) < a0_0)) then some () else none : Option Unit).bind fun _ => ((bif (decide (0 ≤ i5_2) && decide ((Int.toNat i5_2) < a0_0)) then some () else none : Option Unit).bind fun _ =>
    ((bif (decide (0 ≤ i5_2) && decide ((Int.toNat i5_2) < a0_0)) then some () else none : Option Unit).bind fun _ => (go (IntKind.wrap .i64 ((IntKind.wrap .i64 ((IntKind.wrap .i64 ((IntKind.wrap .i64 ((IntKind.wrap .i64 ((IntKind.wrap .i64 ((IntKind.wrap .i64 ((IntKind.wrap .i64 ((IntKind.wrap .i64 (k1_1 + 1)) + 1)) + 1)) + 1)) + 1)) + 1)) + 1)) + 1)) + 1)) (IntKind.wrap .i64 (i5_2 + 1)) (upd_impl_Entry_8_1 (upd_impl_Entry_7_1 (upd_impl_Entry_6_1 (upd_impl_Entry_5_1 (upd_impl_Entry_4_1 (upd_impl_Entry_3_1 (upd_impl_Entry_2_1 (upd_impl_Entry_1_1 (upd_impl_Entry_0_1 of0_4 (Int.toNat i5_2) k1_1) (Int.toNat i5_2) (IntKind.wrap .i64 (k1_1 + 1))) (Int.toNat i5_2) (IntKind.wrap .i64 ((IntKind.wrap .i64 (k1_1 + 1)) + 1))) (Int.toNat i5_2) (IntKind.wrap .i64 ((IntKind.wrap .i64 ((IntKind.wrap .i64 (k1_1 + 1)) + 1)) + 1))) (Int.toNat i5_2) (IntKind.wrap .i64 ((IntKind.wrap .i64 ((IntKind.wrap .i64 ((IntKind.wrap .i64 (k1_1 + 1)) + 1)) + 1)) + 1))) (Int.toNat i5_2) (IntKind.wrap .i64 ((IntKind.wrap .i64 ((IntKind.wrap .i64 ((IntKind.wrap .i64 ((IntKind.wrap .i64 (k1_1 + 1)) + 1)) + 1)) + 1)) + 1))) (Int.toNat i5_2) (IntKind.wrap .i64 ((IntKind.wrap .i64 ((IntKind.wrap .i64 ((IntKind.wrap .i64 ((IntKind.wrap .i64 ((IntKind.wrap .i64 (k1_1 + 1)) + 1)) + 1)) + 1)) + 1)) + 1))) (Int.toNat i5_2) (IntKind.wrap .i64 ((IntKind.wrap .i64 ((IntKind.wrap .i64 ((IntKind.wrap .i64 ((IntKind.wrap .i64 ((IntKind.wrap .i64 ((IntKind.wrap .i64 (k1_1 + 1)) + 1)) + 1)) + 1)) + 1)) + 1)) + 1))) (Int.toNat i5_2) (IntKind.wrap .i64 ((IntKind.wrap .i64 ((IntKind.wrap .i64 ((IntKind.wrap .i64 ((IntKind.wrap .i64 ((IntKind.wrap .i64 ((IntKind.wrap .i64 ((IntKind.wrap .i64 (k1_1 + 1)) + 1)) + 1)) + 1)) + 1)) + 1)) + 1)) + 1))))))))))))) else
    (k0 k1_1 of0_4))
def F_laws_markEntryS_L (fu : Nat) (a_0_0 : Nat) (k_1_1 : Int) (rn0 : Nat) (rf0 : (Nat → S_impl_Entry)) : Option (Int × (Nat × (Nat → S_impl_Entry))) :=
  (L (fun w0 go0 => F_laws_markEntryS_L_B0 fu a_0_0 rn0 (fun z256 z257 => (some (z256, (rn0, z257)))) w0.1 w0.2.1 w0.2.2 (fun q0 q1 q2 => go0 (q0, q1, q2))) fu ((k_1_1, 0, rf0) : Int × Int × (Nat → S_impl_Entry)))
def pc_b13 (fu : Nat) : Pc RT den := ⟨pcf0, fun _ => false, fun _ => false, pcd0, pcd0, pcx0⟩
def msk_b13 (b : Nat) : List Nat := match b with | 0 => [2, 3, 4, 6, 7, 8, 9, 10, 11, 12, 13, 14, 15, 16, 17, 18, 19, 20, 21, 22, 23, 24, 25, 26, 27, 28, 29, 30, 31, 32, 33, 34, 35, 36, 37, 38, 39, 40, 41, 42, 43, 44, 45, 46, 47, 48, 49, 50, 51, 52, 53, 54, 55, 56, 57, 58, 59, 60, 61, 62, 63, 64, 65, 66, 67, 68, 69, 70, 71, 72, 73, 74, 75, 76, 77, 78, 79, 80, 81] | 100000 => [0, 2, 3, 5, 6, 7, 8, 9, 10, 11, 12, 13, 14, 15, 16, 17, 18, 19, 20, 21, 22, 23, 24, 25, 26, 27, 28, 29, 30, 31, 32, 33, 34, 35, 36, 37, 38, 39, 40, 41, 42, 43, 44, 45, 46, 47, 48, 49, 50, 51, 52, 53, 54, 55, 56, 57, 58, 59, 60, 61, 62, 63, 64, 65, 66, 67, 68, 69, 70, 71, 72, 73, 74, 75, 76, 77, 78, 79, 80, 81] | _ => []
def ps_b13_0 : List (Pat RT) := [.flat (.os 0), .flat (.int .i64), .flat .q, .flat .q, .flat .q, .flat (.int .i64), .flat .q, .flat .q, .flat .q, .flat .q, .flat .q, .flat .q, .flat .q, .flat .q, .flat .q, .flat .q, .flat .q, .flat .q, .flat .q, .flat .q, .flat .q, .flat .q, .flat .q, .flat .q, .flat .q, .flat .q, .flat .q, .flat .q, .flat .q, .flat .q, .flat .q, .flat .q, .flat .q, .flat .q, .flat .q, .flat .q, .flat .q, .flat .q, .flat .q, .flat .q, .flat .q, .flat .q, .flat .q, .flat .q, .flat .q, .flat .q, .flat .q, .flat .q, .flat .q, .flat .q, .flat .q, .flat .q, .flat .q, .flat .q, .flat .q, .flat .q, .flat .q, .flat .q, .flat .q, .flat .q, .flat .q, .flat .q, .flat .q, .flat .q, .flat .q, .flat .q, .flat .q, .flat .q, .flat .q, .flat .q, .flat .q, .flat .q, .flat .q, .flat .q, .flat .q, .flat .q, .flat .q, .flat .q, .flat .q, .flat .q, .flat .q, .flat .q]
def os_b13_0 : List (OP RT) := [.row true .impl_Entry]
def conv_b13_0 (r : Raw den ps_b13_0 os_b13_0) : (Nat × Nat) × (Int × Int × (Nat → S_impl_Entry)) := ((r.1.1, r.2.1.1), (r.1.2.1, r.1.2.2.2.2.2.1, r.2.1.2))
def back_b13_0 (c : Nat × Nat) (w : Int × Int × (Nat → S_impl_Entry)) : St RT den := ⟨[(.os 0 c.1), (.int .i64 w.1), .q, .q, .q, (.int .i64 w.2.1), .q, .q, .q, .q, .q, .q, .q, .q, .q, .q, .q, .q, .q, .q, .q, .q, .q, .q, .q, .q, .q, .q, .q, .q, .q, .q, .q, .q, .q, .q, .q, .q, .q, .q, .q, .q, .q, .q, .q, .q, .q, .q, .q, .q, .q, .q, .q, .q, .q, .q, .q, .q, .q, .q, .q, .q, .q, .q, .q, .q, .q, .q, .q, .q, .q, .q, .q, .q, .q, .q, .q, .q, .q, .q, .q, .q], [(.row true .impl_Entry c.2 w.2.2)]⟩
def Bk_b13_0 {ρ : Type} (fu : Nat) (c : Nat × Nat) (k : Ex → St RT den → Option ρ) (w : Int × Int × (Nat → S_impl_Entry)) (go : (Int × Int × (Nat → S_impl_Entry)) → Option ρ) : Option ρ := F_laws_markEntryS_L_B0 fu c.1 c.2 (fun a0 a1 => k (.exit 0) ⟨[.q, (.int .i64 a0), .q, .q, .q, .q, .q, .q, .q, .q, .q, .q, .q, .q, .q, .q, .q, .q, .q, .q, .q, .q, .q, .q, .q, .q, .q, .q, .q, .q, .q, .q, .q, .q, .q, .q, .q, .q, .q, .q, .q, .q, .q, .q, .q, .q, .q, .q, .q, .q, .q, .q, .q, .q, .q, .q, .q, .q, .q, .q, .q, .q, .q, .q, .q, .q, .q, .q, .q, .q, .q, .q, .q, .q, .q, .q, .q, .q, .q, .q, .q, .q], [(.row true .impl_Entry c.2 a1)]⟩) w.1 w.2.1 w.2.2 (fun q0 q1 q2 => go (q0, q1, q2))
def lp_b13 (fu : Nat) : Lp RT den (Int × (Nat × (Nat → S_impl_Entry))) := ⟨fun b s k => match b with | 0 => handle ps_b13_0 os_b13_0 conv_b13_0 (Bk_b13_0 fu) fu s k | _ => none, inl0⟩
def out_b13 (d : D RT den) (os : List (Ob RT den)) : Option (Int × (Nat × (Nat → S_impl_Entry))) := match d, os with | .int .i64 a0_0, [.row true .impl_Entry n0 f0] => some (a0_0, (n0, f0)) | _, _ => none
def enc_b13 (y : Int × (Nat × (Nat → S_impl_Entry))) : D RT den × List (Ob RT den) := ((.int .i64 y.1), [(.row true .impl_Entry y.2.1 y.2.2)])
theorem out_b13_enc (d : D RT den) (os : List (Ob RT den)) (y : Int × (Nat × (Nat → S_impl_Entry))) (h : out_b13 d os = some y) : (unh 1 d).1 = (enc_b13 y).1 ∧ os ++ (unh 1 d).2 = (enc_b13 y).2 := by
  unfold out_b13 at h
  split at h
  · cases h; exact ⟨rfl, rfl⟩
  · cases h
theorem ev_b13 (fu : Nat) (a_0_0 : Nat) (k_1_1 : Int) (rn0 : Nat) (rf0 : (Nat → S_impl_Entry)) : evFunX E false (pc_b13 fu) msk_b13 (lp_b13 fu) out_b13 41 [(.os 0 a_0_0), (.int .i64 k_1_1)] [(.row true .impl_Entry rn0 rf0)] = F_laws_markEntryS_L fu a_0_0 k_1_1 rn0 rf0 := by kernel_rfl
noncomputable def body_b13 : Code := Try.f41.body.getD .skip
noncomputable def lc_b13_0 : Code := ((loops 0 body_b13).getD 0 (0, .skip)).2
theorem round_b13_0 (fu : Nat) (it : St RT den → Option (Int × (Nat × (Nat → S_impl_Entry)))) (k : Ex → St RT den → Option (Int × (Nat × (Nat → S_impl_Entry)))) c w : evCode E (pc_b13 fu) msk_b13 (lp_b13 fu) 0 lc_b13_0 (back_b13_0 c w) (after (msk_b13 0) (msk_b13 100000) 1 it k) = Bk_b13_0 fu c k w (fun w => it (back_b13_0 c w)) := by kernel_rfl
theorem lpok_b13_0 (fu : Nat) : ∀ s k r, (lp_b13 fu).lp 0 s k = some r → ∃ fuel, iter (msk_b13 0) (msk_b13 100000) s.objs.length (evCode E (pc_b13 fu) msk_b13 (lp_b13 fu) 0 lc_b13_0) fuel s k = some r :=
  handle_ok (ps := ps_b13_0) (os := os_b13_0) (conv := conv_b13_0) (B := Bk_b13_0 fu) (fu := fu) back_b13_0 (fun raw => by kernel_rfl) 1 (fun c w => by kernel_rfl) (round_b13_0 fu)
theorem lpok_b13 (fu : Nat) : LpOk E (pc_b13 fu) 0 msk_b13 (lp_b13 fu) (loops 0 body_b13) := lp_nil (loop_all 1 (by kernel_rfl) fun i hi => match i, hi with
  | 0, _ => by
    have h : (loops 0 body_b13).getD 0 (0, .skip) = (0, lc_b13_0) := by kernel_rfl
    rw [h]; exact lpok_b13_0 fu
  | i + 1, hi => absurd hi (by omega)) (by kernel_rfl)
def S_b13 (fu : Nat) (xs : List (D RT den)) (ins : List (Ob RT den)) : Option (OutX RT den) := match xs, ins with | [.os 0 a0_0, .int .i64 a1_0], [.row true .impl_Entry rn0 rf0] => some ⟨Int × (Nat × (Nat → S_impl_Entry)), F_laws_markEntryS_L fu a0_0 a1_0 rn0 rf0, enc_b13⟩ | _, _ => none
theorem goodv_b13 (fu : Nat) (a_0_0 : Nat) (k_1_1 : Int) (rn0 : Nat) (rf0 : (Nat → S_impl_Entry)) (y : Int × (Nat × (Nat → S_impl_Entry))) (hy : F_laws_markEntryS_L fu a_0_0 k_1_1 rn0 rf0 = some y) : GoodX E Try.prog 41 [(.os 0 a_0_0), (.int .i64 k_1_1)] [(.row true .impl_Entry rn0 rf0)] (enc_b13 y).1 (enc_b13 y).2 :=
  funX_good (ke := false) E_ok (pc_good (pc := pc_b13 fu) hpc0 hpx0) (fn := Try.f41) (c := body_b13) (out := out_b13) (y := y) (by kernel_rfl) (by kernel_rfl) (by kernel_rfl) (lpok_b13 fu) (by kernel_rfl) (Nat.le_refl _) (fun d os hd => out_b13_enc d os _ hd) ((ev_b13 fu a_0_0 k_1_1 rn0 rf0).trans hy)
theorem good_b13 (fu : Nat) : ∀ xs ins o, S_b13 fu xs ins = some o → ∀ y, o.x = some y → GoodX E Try.prog 41 xs ins (o.g y).1 (o.g y).2 := by
  intro xs ins o h y hy
  unfold S_b13 at h
  split at h
  · rename_i a0_0 a1_0 rn0 rf0
    cases h
    exact goodv_b13 fu a0_0 a1_0 rn0 rf0 y hy
  · cases h
end Go.Proofs.Ytjdgfkmiaikegaa.Pc
