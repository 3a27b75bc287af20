/- The functions' evaluated forms, each a proved summary. Conditions: none. -/
import Derived.Test.YtjdgfkmiaikegaaPdF3
namespace Go.Proofs.Ytjdgfkmiaikegaa.Pd
open Go Go.RowKit Go.Proofs Vm
set_option linter.unusedVariables false
set_option linter.unusedSimpArgs false
set_option maxRecDepth 100000
abbrev Ye0 : Type := Int × Nat × Nat × Nat × (Nat → S_impl_Mail)
abbrev Ye1 : Type := (Sl Int) × Int × Int × Int × Int × Int × (Sl S_impl_Entry) × Int × Int × (Sl Int) × (Sl Int) × (Sl Int) × Int
abbrev Ye2 : Type := Int × Int × Int × Int × Int × Nat × Int × Int × Nat × Nat × Nat × Nat × Nat × (Nat → S_impl_Entry) × Nat × (Nat → Int) × Nat × (Nat → Int) × Nat × (Nat → Int) × Nat × (Nat → S_impl_Mail)
abbrev Ye3 : Type := Int × Int × Int × Int × (Sl S_impl_Entry) × Int × Int × (Sl Int) × (Sl Int) × (Sl Int) × Int × Int × Int × Int × Int × (Sl S_impl_Entry) × Int × Int × (Sl Int) × (Sl Int) × (Sl Int) × Int × Int × Int × Int × (Sl S_impl_Entry) × Int × Int × (Sl Int) × (Sl Int) × (Sl Int) × Int × Int × Int × Int × Int × Int × Int × Int × Int × Int × Int × Nat × Int × Int × Nat × Nat × Nat × Nat × (Nat → S_impl_Entry) × Nat × (Nat → Int) × Nat × (Nat → Int) × Nat × (Nat → Int) × Nat × (Nat → Int)
/-! impl.LogFault -/
def F_impl_LogFault_B0 {ρ : Type} (fu : Nat) (log0_0 : (Sl S_impl_Entry)) (t9_1 : (Sl S_impl_Entry)) (t10_2 : Int) (k0 : Int → Int → Int → Int → Int → Int → Int → Int → Int → Int → Option ρ) (k1 : Int → Int → Int → Int → Int → Int → Int → Int → Int → Option ρ) (k2 : Option ρ) (t11_3 : Int) (go : Int → Option ρ) : Option ρ :=
  (bif (decide (t11_3 < t10_2)) then ((bif (decide (0 ≤ t11_3) && decide ((Int.toNat t11_3) < t9_1.n)) then some () else none : Option Unit).bind fun _ => ((F_impl_EntryFault fu (t9_1.f (Int.toNat t11_3))).bind fun y304 =>
    (bif (y304 != 0) then (k0 y304 (t9_1.f (Int.toNat t11_3)).Term (t9_1.f (Int.toNat t11_3)).Client (t9_1.f (Int.toNat t11_3)).Seq (t9_1.f (Int.toNat t11_3)).Cmd.Kind (t9_1.f (Int.toNat t11_3)).Cmd.Expect (t9_1.f (Int.toNat t11_3)).Cmd.Name (t9_1.f (Int.toNat t11_3)).Cmd.Addr (t9_1.f (Int.toNat t11_3)).Cmd.Number (t9_1.f (Int.toNat t11_3)).Cmd.Proto) else
    (((bif (decide (t11_3 > 0)) then ((bif (decide (0 ≤ (IntKind.wrap .i64 (t11_3 - 1))) && decide ((Int.toNat (IntKind.wrap .i64 (t11_3 - 1))) < log0_0.n)) then some () else none : Option Unit).bind fun _ =>
    (some (decide ((t9_1.f (Int.toNat t11_3)).Term < (log0_0.f (Int.toNat (IntKind.wrap .i64 (t11_3 - 1)))).Term)))) else (some false)) : Option Bool).bind fun m305 => (bif m305 then
    (k1 (t9_1.f (Int.toNat t11_3)).Term (t9_1.f (Int.toNat t11_3)).Client (t9_1.f (Int.toNat t11_3)).Seq (t9_1.f (Int.toNat t11_3)).Cmd.Kind (t9_1.f (Int.toNat t11_3)).Cmd.Expect (t9_1.f (Int.toNat t11_3)).Cmd.Name (t9_1.f (Int.toNat t11_3)).Cmd.Addr (t9_1.f (Int.toNat t11_3)).Cmd.Number (t9_1.f (Int.toNat t11_3)).Cmd.Proto) else
    (go (IntKind.wrap .i64 (t11_3 + 1)))))))) else k2)
def F_impl_LogFault (fu : Nat) (log_0 : (Sl S_impl_Entry)) : Option (Int) :=
  (bif (decide (((log_0.n : Nat) : Int) > 40)) then (some 2) else (L (fun w0 go0 => F_impl_LogFault_B0 fu log_0 log_0 ((log_0.n : Nat) : Int) (fun z306 z307 z308 z309 z310 z311 z312 z313 z314 z315 =>
    (some z306)) (fun z316 z317 z318 z319 z320 z321 z322 z323 z324 => (some 1)) (some 0) w0 go0) fu (0 : Int)))
def pcf_b5 (fu : Nat) (f : Nat) (xs : List (D RT den)) : Option (Out RT den) := match f with | 65 => S_b4 fu xs | _ => none
def pc_b5 (fu : Nat) : Pc RT den := ⟨pcf_b5 fu, fun _ => false, fun _ => false, pcd0, pcd0, pcx0⟩
def msk_b5 (b : Nat) : List Nat := match b with | 0 => (rg 1 8 (rg 12 23 [])) | 100000 => (0 :: 1 :: (rg 3 32 [])) | 200009 => [33] | _ => []
def ps_b5_0 : List (Pat RT) := (.flat (.rs .impl_Entry) :: (fq 8 (.flat (.rs .impl_Entry) :: .flat (.int .i64) :: .flat (.int .i64) :: (fq 23 []))))
def os_b5_0 : List (OP RT) := []
def conv_b5_0 (r : Raw den ps_b5_0 os_b5_0) : ((Sl S_impl_Entry) × (Sl S_impl_Entry) × Int) × (Int) := ((r.1.1, (e5 r.1).2.2.2.2.1, (e10 r.1).1), (e10 r.1).2.1)
def back_b5_0 (c : (Sl S_impl_Entry) × (Sl S_impl_Entry) × Int) (w : Int) : St RT den := ⟨((.rs c.1.z .impl_Entry c.1.n c.1.f) :: (qs 8 ((.rs c.2.1.z .impl_Entry c.2.1.n c.2.1.f) :: (.int .i64 c.2.2) :: (.int .i64 w) :: (qs 23 [])))), []⟩
def Bk_b5_0 {ρ : Type} (fu : Nat) (c : (Sl S_impl_Entry) × (Sl S_impl_Entry) × Int) (k : Ex → St RT den → Option ρ) (w : Int) (go : (Int) → Option ρ) : Option ρ := F_impl_LogFault_B0 fu c.1 c.2.1 c.2.2 (fun a0 a1 a2 a3 a4 a5 a6 a7 a8 a9 => k .ret ⟨(.q :: .q :: (.int .i64 a0) :: (qs 32 [])), [(.box false [(.int .i64 a1), (.int .i64 a2), (.int .i64 a3), (.int .i64 a4), (.int .i64 a5), (.int .i64 a6), (.int .i64 a7), (.int .i64 a8), (.int .i64 a9)])]⟩) (fun a0 a1 a2 a3 a4 a5 a6 a7 a8 => k .ret ⟨(.q :: .q :: (.int .i64 1) :: (qs 32 [])), [(.box false [(.int .i64 a0), (.int .i64 a1), (.int .i64 a2), (.int .i64 a3), (.int .i64 a4), (.int .i64 a5), (.int .i64 a6), (.int .i64 a7), (.int .i64 a8)])]⟩) (k (.exit 0) ⟨(qs 35 []), []⟩) w go
def lp_b5 (fu : Nat) : Lp RT den (Int) := ⟨fun b s k => match b with | 0 => handle ps_b5_0 os_b5_0 conv_b5_0 (Bk_b5_0 fu) fu s k | _ => none, inl0⟩
theorem ev_b5 (fu : Nat) (log_0 : (Sl S_impl_Entry)) : evFun E (pc_b5 fu) msk_b5 (lp_b5 fu) out_i64 60 [(.rs log_0.z .impl_Entry log_0.n log_0.f)] = F_impl_LogFault fu log_0 := by kernel_rfl
noncomputable def body_b5 : Code := Try.f60.body.getD .skip
noncomputable def lc_b5_0 : Code := ((loops 0 body_b5).getD 0 (0, .skip)).2
theorem round_b5_0 (fu : Nat) (it : St RT den → Option (Int)) (k : Ex → St RT den → Option (Int)) c w : evCode E (pc_b5 fu) msk_b5 (lp_b5 fu) 0 lc_b5_0 (back_b5_0 c w) (after (msk_b5 0) (msk_b5 100000) 0 it k) = Bk_b5_0 fu c k w (fun w => it (back_b5_0 c w)) := by kernel_rfl
theorem lpok_b5_0 (fu : Nat) : ∀ s k r, (lp_b5 fu).lp 0 s k = some r → ∃ fuel, iter (msk_b5 0) (msk_b5 100000) s.objs.length (evCode E (pc_b5 fu) msk_b5 (lp_b5 fu) 0 lc_b5_0) fuel s k = some r :=
  handle_ok (ps := ps_b5_0) (os := os_b5_0) (conv := conv_b5_0) (B := Bk_b5_0 fu) (fu := fu) back_b5_0 (fun raw => by kernel_rfl) 0 (fun c w => by kernel_rfl) (round_b5_0 fu)
theorem lpok_b5 (fu : Nat) : LpOk E (pc_b5 fu) 0 msk_b5 (lp_b5 fu) (loops 0 body_b5) := lp_nil (loop_all 1 (by kernel_rfl) fun i hi => match i, hi with
  | 0, _ => by
    have h : (loops 0 body_b5).getD 0 (0, .skip) = (0, lc_b5_0) := by kernel_rfl
    rw [h]; exact lpok_b5_0 fu
  | i + 1, hi => absurd hi (by omega)) (by kernel_rfl)
def S_b5 (fu : Nat) (xs : List (D RT den)) : Option (Out RT den) := match xs with | [.rs za0_0 .impl_Entry na0_0 fa0_0] => some ⟨Int, F_impl_LogFault fu (⟨za0_0, na0_0, fa0_0⟩ : (Sl S_impl_Entry)), enc_i64, fun _ => true⟩ | _ => none
theorem hpc_b5 (fu : Nat) : ∀ f xs o, pcf_b5 fu f xs = some o → ∀ y, o.x = some y → Good E Try.prog f xs (o.g y) := by
  intro f xs o h
  unfold pcf_b5 at h
  split at h
  · exact good_b4 fu xs o h
  · cases h
theorem goodv_b5 (fu : Nat) (log_0 : (Sl S_impl_Entry)) (y : Int) (hy : F_impl_LogFault fu log_0 = some y) : Good E Try.prog 60 [(.rs log_0.z .impl_Entry log_0.n log_0.f)] (enc_i64 y) :=
  fun_good E_ok (pc_good (pc := pc_b5 fu) (hpc_b5 fu) hpx0) (fn := Try.f60) (c := body_b5) (out := out_i64) (y := y) (by kernel_rfl) (by kernel_rfl) (by kernel_rfl) (lpok_b5 fu) (fun d hd => out_i64_enc d _ hd) ((ev_b5 fu log_0).trans hy)
theorem good_b5 (fu : Nat) : ∀ xs o, S_b5 fu xs = some o → ∀ y, o.x = some y → Good E Try.prog 60 xs (o.g y) := by
  intro xs o h y hy
  unfold S_b5 at h
  split at h
  · rename_i za0_0 na0_0 fa0_0
    cases h
    exact goodv_b5 fu (⟨za0_0, na0_0, fa0_0⟩ : (Sl S_impl_Entry)) y hy
  · cases h

/-! impl.last -/
def F_impl_last (fu : Nat) (log_0 : (Sl S_impl_Entry)) : Option (S_impl_Entry) :=
  (bif (((log_0.n : Nat) : Int) == 0) then (some (⟨0, 0, 0, (⟨0, 0, 0, 0, 0, 0⟩ : S_impl_Cmd)⟩ : S_impl_Entry)) else ((bif (decide (0 ≤ (IntKind.wrap .i64 (((log_0.n : Nat) : Int) - 1))) &&
    decide ((Int.toNat (IntKind.wrap .i64 (((log_0.n : Nat) : Int) - 1))) < log_0.n)) then some () else none : Option Unit).bind fun _ => (some (log_0.f (Int.toNat (IntKind.wrap .i64 (((log_0.n : Nat) : Int) - 1)))))))
def pc_b6 (fu : Nat) : Pc RT den := ⟨pcf0, fun _ => false, fun _ => false, pcd0, pcd0, pcx0⟩
def msk_b6 (b : Nat) : List Nat := []
def lp_b6 (fu : Nat) : Lp RT den (S_impl_Entry) := ⟨fun b s k => none, inl0⟩
theorem ev_b6 (fu : Nat) (log_0 : (Sl S_impl_Entry)) : evFun E (pc_b6 fu) msk_b6 (lp_b6 fu) out_impl_Entry 35 [(.rs log_0.z .impl_Entry log_0.n log_0.f)] = F_impl_last fu log_0 := by kernel_rfl
noncomputable def body_b6 : Code := Try.f35.body.getD .skip
theorem lpok_b6 (fu : Nat) : LpOk E (pc_b6 fu) 0 msk_b6 (lp_b6 fu) (loops 0 body_b6) := lp_nil (loop_nil (by kernel_rfl)) (by kernel_rfl)
def S_b6 (fu : Nat) (xs : List (D RT den)) : Option (Out RT den) := match xs with | [.rs za0_0 .impl_Entry na0_0 fa0_0] => some ⟨S_impl_Entry, F_impl_last fu (⟨za0_0, na0_0, fa0_0⟩ : (Sl S_impl_Entry)), enc_impl_Entry, fun _ => true⟩ | _ => none
theorem goodv_b6 (fu : Nat) (log_0 : (Sl S_impl_Entry)) (y : S_impl_Entry) (hy : F_impl_last fu log_0 = some y) : Good E Try.prog 35 [(.rs log_0.z .impl_Entry log_0.n log_0.f)] (enc_impl_Entry y) :=
  fun_good E_ok (pc_good (pc := pc_b6 fu) hpc0 hpx0) (fn := Try.f35) (c := body_b6) (out := out_impl_Entry) (y := y) (by kernel_rfl) (by kernel_rfl) (by kernel_rfl) (lpok_b6 fu) (fun d hd => out_impl_Entry_enc d _ hd) ((ev_b6 fu log_0).trans hy)
theorem good_b6 (fu : Nat) : ∀ xs o, S_b6 fu xs = some o → ∀ y, o.x = some y → Good E Try.prog 35 xs (o.g y) := by
  intro xs o h y hy
  unfold S_b6 at h
  split at h
  · rename_i za0_0 na0_0 fa0_0
    cases h
    exact goodv_b6 fu (⟨za0_0, na0_0, fa0_0⟩ : (Sl S_impl_Entry)) y hy
  · cases h

/-! impl.size[int64] -/
def F_impl_size_int64 (fu : Nat) (list_0 : (Sl Int)) : Option (Int) :=
  (some ((list_0.n : Nat) : Int))
def pc_b7 (fu : Nat) : Pc RT den := ⟨pcf0, fun _ => false, fun _ => false, pcd0, pcd0, pcx0⟩
def msk_b7 (b : Nat) : List Nat := []
def lp_b7 (fu : Nat) : Lp RT den (Int) := ⟨fun b s k => none, inl0⟩
theorem ev_b7 (fu : Nat) (list_0 : (Sl Int)) : evFun E (pc_b7 fu) msk_b7 (lp_b7 fu) out_i64 61 [(.rs list_0.z .i64 list_0.n list_0.f)] = F_impl_size_int64 fu list_0 := by kernel_rfl
noncomputable def body_b7 : Code := Try.f61.body.getD .skip
theorem lpok_b7 (fu : Nat) : LpOk E (pc_b7 fu) 0 msk_b7 (lp_b7 fu) (loops 0 body_b7) := lp_nil (loop_nil (by kernel_rfl)) (by kernel_rfl)
def S_b7 (fu : Nat) (xs : List (D RT den)) : Option (Out RT den) := match xs with | [.rs za0_0 .i64 na0_0 fa0_0] => some ⟨Int, F_impl_size_int64 fu (⟨za0_0, na0_0, fa0_0⟩ : (Sl Int)), enc_i64, fun _ => true⟩ | _ => none
theorem goodv_b7 (fu : Nat) (list_0 : (Sl Int)) (y : Int) (hy : F_impl_size_int64 fu list_0 = some y) : Good E Try.prog 61 [(.rs list_0.z .i64 list_0.n list_0.f)] (enc_i64 y) :=
  fun_good E_ok (pc_good (pc := pc_b7 fu) hpc0 hpx0) (fn := Try.f61) (c := body_b7) (out := out_i64) (y := y) (by kernel_rfl) (by kernel_rfl) (by kernel_rfl) (lpok_b7 fu) (fun d hd => out_i64_enc d _ hd) ((ev_b7 fu list_0).trans hy)
theorem good_b7 (fu : Nat) : ∀ xs o, S_b7 fu xs = some o → ∀ y, o.x = some y → Good E Try.prog 61 xs (o.g y) := by
  intro xs o h y hy
  unfold S_b7 at h
  split at h
  · rename_i za0_0 na0_0 fa0_0
    cases h
    exact goodv_b7 fu (⟨za0_0, na0_0, fa0_0⟩ : (Sl Int)) y hy
  · cases h

/-! impl.NodeFault'1 -/
def F_impl_NodeFault_c1 (fu : Nat) (k_0 : Int) (x_1_1 : Int) : Option (Bool) :=
  ((F_impl_in fu k_0 1 (IntKind.wrap .i64 (x_1_1 + 1))).bind fun y364 => (some (!y364)))
def pcf_b8 (fu : Nat) (f : Nat) (xs : List (D RT den)) : Option (Out RT den) := match f with | 58 => S_a35 fu xs | _ => none
def pc_b8 (fu : Nat) : Pc RT den := ⟨pcf_b8 fu, fun _ => false, fun _ => false, pcd0, pcd0, pcx0⟩
def msk_b8 (b : Nat) : List Nat := []
def lp_b8 (fu : Nat) : Lp RT den (Bool) := ⟨fun b s k => none, inl0⟩
theorem ev_b8 (fu : Nat) (k_0 : Int) (x_1_1 : Int) : evFun E (pc_b8 fu) msk_b8 (lp_b8 fu) out_bo 63 [(.int .i64 k_0), (.rptr [(.int .i64 x_1_1)])] = F_impl_NodeFault_c1 fu k_0 x_1_1 := by kernel_rfl
noncomputable def body_b8 : Code := Try.f63.body.getD .skip
theorem lpok_b8 (fu : Nat) : LpOk E (pc_b8 fu) 0 msk_b8 (lp_b8 fu) (loops 0 body_b8) := lp_nil (loop_nil (by kernel_rfl)) (by kernel_rfl)
def S_b8 (fu : Nat) (xs : List (D RT den)) : Option (Out RT den) := match xs with | [.int .i64 a0_0, .rptr [.int .i64 a1_0]] => some ⟨Bool, F_impl_NodeFault_c1 fu a0_0 a1_0, enc_bo, fun _ => true⟩ | _ => none
theorem hpc_b8 (fu : Nat) : ∀ f xs o, pcf_b8 fu f xs = some o → ∀ y, o.x = some y → Good E Try.prog f xs (o.g y) := by
  intro f xs o h
  unfold pcf_b8 at h
  split at h
  · exact good_a35 fu xs o h
  · cases h
theorem goodv_b8 (fu : Nat) (k_0 : Int) (x_1_1 : Int) (y : Bool) (hy : F_impl_NodeFault_c1 fu k_0 x_1_1 = some y) : Good E Try.prog 63 [(.int .i64 k_0), (.rptr [(.int .i64 x_1_1)])] (enc_bo y) :=
  fun_good E_ok (pc_good (pc := pc_b8 fu) (hpc_b8 fu) hpx0) (fn := Try.f63) (c := body_b8) (out := out_bo) (y := y) (by kernel_rfl) (by kernel_rfl) (by kernel_rfl) (lpok_b8 fu) (fun d hd => out_bo_enc d _ hd) ((ev_b8 fu k_0 x_1_1).trans hy)
theorem good_b8 (fu : Nat) : ∀ xs o, S_b8 fu xs = some o → ∀ y, o.x = some y → Good E Try.prog 63 xs (o.g y) := by
  intro xs o h y hy
  unfold S_b8 at h
  split at h
  · rename_i a0_0 a1_0
    cases h
    exact goodv_b8 fu a0_0 a1_0 y hy
  · cases h

/-! slices.IndexFunc[[]int64,int64] -/
def F_slices_IndexFunc_int64_int64_w_impl_NodeFault_c1_B0 {ρ : Type} (fu : Nat) (s0_0 : (Sl Int)) (f1_1 : Int) (t7_2 : Int) (k0 : Int → Option ρ) (k1 : Option ρ) (t8_3 : Int) (go : Int → Option ρ) : Option ρ :=
  (bif (decide (t8_3 < t7_2)) then ((bif (decide (0 ≤ t8_3) && decide ((Int.toNat t8_3) < s0_0.n)) then some () else none : Option Unit).bind fun _ => ((F_impl_NodeFault_c1 fu (s0_0.f (Int.toNat t8_3)) f1_1).bind fun y362 =>
    (bif y362 then (k0 t8_3) else (go (IntKind.wrap .i64 (t8_3 + 1)))))) else k1)
def F_slices_IndexFunc_int64_int64_w_impl_NodeFault_c1 (fu : Nat) (s_0 : (Sl Int)) (f_1_1 : Int) : Option (Int) :=
  (L (fun w0 go0 => F_slices_IndexFunc_int64_int64_w_impl_NodeFault_c1_B0 fu s_0 f_1_1 ((s_0.n : Nat) : Int) (fun z363 => (some z363)) (some (-1)) w0 go0) fu (0 : Int))
def pcf_b9 (fu : Nat) (f : Nat) (xs : List (D RT den)) : Option (Out RT den) := match f with | 63 => S_b8 fu xs | _ => none
def pc_b9 (fu : Nat) : Pc RT den := ⟨pcf_b9 fu, fun _ => false, fun _ => false, pcd0, pcd0, pcx0⟩
def msk_b9 (b : Nat) : List Nat := match b with | 0 => (rg 2 5 (rg 9 10 [])) | 100000 => (0 :: 1 :: 2 :: 3 :: (rg 5 14 [])) | _ => []
def ps_b9_0 : List (Pat RT) := (.flat (.rs .i64) :: .fn 63 [.rptr [(.int .i64)]] :: (fq 5 (.flat (.int .i64) :: .flat (.int .i64) :: (fq 10 []))))
def os_b9_0 : List (OP RT) := []
def conv_b9_0 (r : Raw den ps_b9_0 os_b9_0) : ((Sl Int) × Int × Int) × (Int) := ((r.1.1, r.1.2.1.1.1, (e5 r.1).2.2.1), (e5 r.1).2.2.2.1)
def back_b9_0 (c : (Sl Int) × Int × Int) (w : Int) : St RT den := ⟨((.rs c.1.z .i64 c.1.n c.1.f) :: (.fn 63 [(.rptr [(.int .i64 c.2.1)])]) :: (qs 5 ((.int .i64 c.2.2) :: (.int .i64 w) :: (qs 10 [])))), []⟩
def Bk_b9_0 {ρ : Type} (fu : Nat) (c : (Sl Int) × Int × Int) (k : Ex → St RT den → Option ρ) (w : Int) (go : (Int) → Option ρ) : Option ρ := F_slices_IndexFunc_int64_int64_w_impl_NodeFault_c1_B0 fu c.1 c.2.1 c.2.2 (fun a0 => k .ret ⟨(qs 4 ((.int .i64 a0) :: (qs 14 []))), []⟩) (k (.exit 0) ⟨(qs 19 []), []⟩) w go
def lp_b9 (fu : Nat) : Lp RT den (Int) := ⟨fun b s k => match b with | 0 => handle ps_b9_0 os_b9_0 conv_b9_0 (Bk_b9_0 fu) fu s k | _ => none, inl0⟩
theorem ev_b9 (fu : Nat) (s_0 : (Sl Int)) (f_1_1 : Int) : evFun E (pc_b9 fu) msk_b9 (lp_b9 fu) out_i64 87 [(.rs s_0.z .i64 s_0.n s_0.f), (.fn 63 [(.rptr [(.int .i64 f_1_1)])])] = F_slices_IndexFunc_int64_int64_w_impl_NodeFault_c1 fu s_0 f_1_1 := by kernel_rfl
noncomputable def body_b9 : Code := Try.f87.body.getD .skip
noncomputable def lc_b9_0 : Code := ((loops 0 body_b9).getD 0 (0, .skip)).2
theorem round_b9_0 (fu : Nat) (it : St RT den → Option (Int)) (k : Ex → St RT den → Option (Int)) c w : evCode E (pc_b9 fu) msk_b9 (lp_b9 fu) 0 lc_b9_0 (back_b9_0 c w) (after (msk_b9 0) (msk_b9 100000) 0 it k) = Bk_b9_0 fu c k w (fun w => it (back_b9_0 c w)) := by kernel_rfl
theorem lpok_b9_0 (fu : Nat) : ∀ s k r, (lp_b9 fu).lp 0 s k = some r → ∃ fuel, iter (msk_b9 0) (msk_b9 100000) s.objs.length (evCode E (pc_b9 fu) msk_b9 (lp_b9 fu) 0 lc_b9_0) fuel s k = some r :=
  handle_ok (ps := ps_b9_0) (os := os_b9_0) (conv := conv_b9_0) (B := Bk_b9_0 fu) (fu := fu) back_b9_0 (fun raw => by kernel_rfl) 0 (fun c w => by kernel_rfl) (round_b9_0 fu)
theorem lpok_b9 (fu : Nat) : LpOk E (pc_b9 fu) 0 msk_b9 (lp_b9 fu) (loops 0 body_b9) := lp_nil (loop_all 1 (by kernel_rfl) fun i hi => match i, hi with
  | 0, _ => by
    have h : (loops 0 body_b9).getD 0 (0, .skip) = (0, lc_b9_0) := by kernel_rfl
    rw [h]; exact lpok_b9_0 fu
  | i + 1, hi => absurd hi (by omega)) (by kernel_rfl)
def S_b9 (fu : Nat) (xs : List (D RT den)) : Option (Out RT den) := match xs with | [.rs za0_0 .i64 na0_0 fa0_0, .fn 63 [.rptr [.int .i64 a1_0]]] => some ⟨Int, F_slices_IndexFunc_int64_int64_w_impl_NodeFault_c1 fu (⟨za0_0, na0_0, fa0_0⟩ : (Sl Int)) a1_0, enc_i64, fun _ => true⟩ | _ => none
theorem hpc_b9 (fu : Nat) : ∀ f xs o, pcf_b9 fu f xs = some o → ∀ y, o.x = some y → Good E Try.prog f xs (o.g y) := by
  intro f xs o h
  unfold pcf_b9 at h
  split at h
  · exact good_b8 fu xs o h
  · cases h
theorem goodv_b9 (fu : Nat) (s_0 : (Sl Int)) (f_1_1 : Int) (y : Int) (hy : F_slices_IndexFunc_int64_int64_w_impl_NodeFault_c1 fu s_0 f_1_1 = some y) : Good E Try.prog 87 [(.rs s_0.z .i64 s_0.n s_0.f), (.fn 63 [(.rptr [(.int .i64 f_1_1)])])] (enc_i64 y) :=
  fun_good E_ok (pc_good (pc := pc_b9 fu) (hpc_b9 fu) hpx0) (fn := Try.f87) (c := body_b9) (out := out_i64) (y := y) (by kernel_rfl) (by kernel_rfl) (by kernel_rfl) (lpok_b9 fu) (fun d hd => out_i64_enc d _ hd) ((ev_b9 fu s_0 f_1_1).trans hy)
theorem good_b9 (fu : Nat) : ∀ xs o, S_b9 fu xs = some o → ∀ y, o.x = some y → Good E Try.prog 87 xs (o.g y) := by
  intro xs o h y hy
  unfold S_b9 at h
  split at h
  · rename_i za0_0 na0_0 fa0_0 a1_0
    cases h
    exact goodv_b9 fu (⟨za0_0, na0_0, fa0_0⟩ : (Sl Int)) a1_0 y hy
  · cases h

/-! slices.ContainsFunc[[]int64,int64] -/
def F_slices_ContainsFunc_int64_int64_w_impl_NodeFault_c1 (fu : Nat) (s_0 : (Sl Int)) (f_1_1 : Int) : Option (Bool) :=
  ((F_slices_IndexFunc_int64_int64_w_impl_NodeFault_c1 fu s_0 f_1_1).bind fun y361 => (some (decide (y361 ≥ 0))))
def pcf_b10 (fu : Nat) (f : Nat) (xs : List (D RT den)) : Option (Out RT den) := match f with | 87 => S_b9 fu xs | _ => none
def pc_b10 (fu : Nat) : Pc RT den := ⟨pcf_b10 fu, fun _ => false, fun _ => false, pcd0, pcd0, pcx0⟩
def msk_b10 (b : Nat) : List Nat := []
def lp_b10 (fu : Nat) : Lp RT den (Bool) := ⟨fun b s k => none, inl0⟩
theorem ev_b10 (fu : Nat) (s_0 : (Sl Int)) (f_1_1 : Int) : evFun E (pc_b10 fu) msk_b10 (lp_b10 fu) out_bo 62 [(.rs s_0.z .i64 s_0.n s_0.f), (.fn 63 [(.rptr [(.int .i64 f_1_1)])])] = F_slices_ContainsFunc_int64_int64_w_impl_NodeFault_c1 fu s_0 f_1_1 := by kernel_rfl
noncomputable def body_b10 : Code := Try.f62.body.getD .skip
theorem lpok_b10 (fu : Nat) : LpOk E (pc_b10 fu) 0 msk_b10 (lp_b10 fu) (loops 0 body_b10) := lp_nil (loop_nil (by kernel_rfl)) (by kernel_rfl)
def S_b10 (fu : Nat) (xs : List (D RT den)) : Option (Out RT den) := match xs with | [.rs za0_0 .i64 na0_0 fa0_0, .fn 63 [.rptr [.int .i64 a1_0]]] => some ⟨Bool, F_slices_ContainsFunc_int64_int64_w_impl_NodeFault_c1 fu (⟨za0_0, na0_0, fa0_0⟩ : (Sl Int)) a1_0, enc_bo, fun _ => true⟩ | _ => none
theorem hpc_b10 (fu : Nat) : ∀ f xs o, pcf_b10 fu f xs = some o → ∀ y, o.x = some y → Good E Try.prog f xs (o.g y) := by
  intro f xs o h
  unfold pcf_b10 at h
  split at h
  · exact good_b9 fu xs o h
  · cases h
theorem goodv_b10 (fu : Nat) (s_0 : (Sl Int)) (f_1_1 : Int) (y : Bool) (hy : F_slices_ContainsFunc_int64_int64_w_impl_NodeFault_c1 fu s_0 f_1_1 = some y) : Good E Try.prog 62 [(.rs s_0.z .i64 s_0.n s_0.f), (.fn 63 [(.rptr [(.int .i64 f_1_1)])])] (enc_bo y) :=
  fun_good E_ok (pc_good (pc := pc_b10 fu) (hpc_b10 fu) hpx0) (fn := Try.f62) (c := body_b10) (out := out_bo) (y := y) (by kernel_rfl) (by kernel_rfl) (by kernel_rfl) (lpok_b10 fu) (fun d hd => out_bo_enc d _ hd) ((ev_b10 fu s_0 f_1_1).trans hy)
theorem good_b10 (fu : Nat) : ∀ xs o, S_b10 fu xs = some o → ∀ y, o.x = some y → Good E Try.prog 62 xs (o.g y) := by
  intro xs o h y hy
  unfold S_b10 at h
  split at h
  · rename_i za0_0 na0_0 fa0_0 a1_0
    cases h
    exact goodv_b10 fu (⟨za0_0, na0_0, fa0_0⟩ : (Sl Int)) a1_0 y hy
  · cases h

/-! impl.NodeFault'2 -/
def F_impl_NodeFault_c2 (fu : Nat) (k_0 : Int) (x_1_1 : Int) : Option (Bool) :=
  ((F_impl_in fu k_0 0 x_1_1).bind fun y368 => (some (!y368)))
def pcf_b11 (fu : Nat) (f : Nat) (xs : List (D RT den)) : Option (Out RT den) := match f with | 58 => S_a35 fu xs | _ => none
def pc_b11 (fu : Nat) : Pc RT den := ⟨pcf_b11 fu, fun _ => false, fun _ => false, pcd0, pcd0, pcx0⟩
def msk_b11 (b : Nat) : List Nat := []
def lp_b11 (fu : Nat) : Lp RT den (Bool) := ⟨fun b s k => none, inl0⟩
theorem ev_b11 (fu : Nat) (k_0 : Int) (x_1_1 : Int) : evFun E (pc_b11 fu) msk_b11 (lp_b11 fu) out_bo 64 [(.int .i64 k_0), (.rptr [(.int .i64 x_1_1)])] = F_impl_NodeFault_c2 fu k_0 x_1_1 := by kernel_rfl
noncomputable def body_b11 : Code := Try.f64.body.getD .skip
theorem lpok_b11 (fu : Nat) : LpOk E (pc_b11 fu) 0 msk_b11 (lp_b11 fu) (loops 0 body_b11) := lp_nil (loop_nil (by kernel_rfl)) (by kernel_rfl)
def S_b11 (fu : Nat) (xs : List (D RT den)) : Option (Out RT den) := match xs with | [.int .i64 a0_0, .rptr [.int .i64 a1_0]] => some ⟨Bool, F_impl_NodeFault_c2 fu a0_0 a1_0, enc_bo, fun _ => true⟩ | _ => none
theorem hpc_b11 (fu : Nat) : ∀ f xs o, pcf_b11 fu f xs = some o → ∀ y, o.x = some y → Good E Try.prog f xs (o.g y) := by
  intro f xs o h
  unfold pcf_b11 at h
  split at h
  · exact good_a35 fu xs o h
  · cases h
theorem goodv_b11 (fu : Nat) (k_0 : Int) (x_1_1 : Int) (y : Bool) (hy : F_impl_NodeFault_c2 fu k_0 x_1_1 = some y) : Good E Try.prog 64 [(.int .i64 k_0), (.rptr [(.int .i64 x_1_1)])] (enc_bo y) :=
  fun_good E_ok (pc_good (pc := pc_b11 fu) (hpc_b11 fu) hpx0) (fn := Try.f64) (c := body_b11) (out := out_bo) (y := y) (by kernel_rfl) (by kernel_rfl) (by kernel_rfl) (lpok_b11 fu) (fun d hd => out_bo_enc d _ hd) ((ev_b11 fu k_0 x_1_1).trans hy)
theorem good_b11 (fu : Nat) : ∀ xs o, S_b11 fu xs = some o → ∀ y, o.x = some y → Good E Try.prog 64 xs (o.g y) := by
  intro xs o h y hy
  unfold S_b11 at h
  split at h
  · rename_i a0_0 a1_0
    cases h
    exact goodv_b11 fu a0_0 a1_0 y hy
  · cases h

/-! slices.IndexFunc[[]int64,int64] -/
def F_slices_IndexFunc_int64_int64_w_impl_NodeFault_c2_B0 {ρ : Type} (fu : Nat) (s0_0 : (Sl Int)) (f1_1 : Int) (t7_2 : Int) (k0 : Int → Option ρ) (k1 : Option ρ) (t8_3 : Int) (go : Int → Option ρ) : Option ρ :=
  (bif (decide (t8_3 < t7_2)) then ((bif (decide (0 ≤ t8_3) && decide ((Int.toNat t8_3) < s0_0.n)) then some () else none : Option Unit).bind fun _ => ((F_impl_NodeFault_c2 fu (s0_0.f (Int.toNat t8_3)) f1_1).bind fun y366 =>
    (bif y366 then (k0 t8_3) else (go (IntKind.wrap .i64 (t8_3 + 1)))))) else k1)
def F_slices_IndexFunc_int64_int64_w_impl_NodeFault_c2 (fu : Nat) (s_0 : (Sl Int)) (f_1_1 : Int) : Option (Int) :=
  (L (fun w0 go0 => F_slices_IndexFunc_int64_int64_w_impl_NodeFault_c2_B0 fu s_0 f_1_1 ((s_0.n : Nat) : Int) (fun z367 => (some z367)) (some (-1)) w0 go0) fu (0 : Int))
def pcf_b12 (fu : Nat) (f : Nat) (xs : List (D RT den)) : Option (Out RT den) := match f with | 64 => S_b11 fu xs | _ => none
def pc_b12 (fu : Nat) : Pc RT den := ⟨pcf_b12 fu, fun _ => false, fun _ => false, pcd0, pcd0, pcx0⟩
def msk_b12 (b : Nat) : List Nat := match b with | 0 => (rg 2 5 (rg 9 10 [])) | 100000 => (0 :: 1 :: 2 :: 3 :: (rg 5 14 [])) | _ => []
def ps_b12_0 : List (Pat RT) := (.flat (.rs .i64) :: .fn 64 [.rptr [(.int .i64)]] :: (fq 5 (.flat (.int .i64) :: .flat (.int .i64) :: (fq 10 []))))
def os_b12_0 : List (OP RT) := []
def conv_b12_0 (r : Raw den ps_b12_0 os_b12_0) : ((Sl Int) × Int × Int) × (Int) := ((r.1.1, r.1.2.1.1.1, (e5 r.1).2.2.1), (e5 r.1).2.2.2.1)
def back_b12_0 (c : (Sl Int) × Int × Int) (w : Int) : St RT den := ⟨((.rs c.1.z .i64 c.1.n c.1.f) :: (.fn 64 [(.rptr [(.int .i64 c.2.1)])]) :: (qs 5 ((.int .i64 c.2.2) :: (.int .i64 w) :: (qs 10 [])))), []⟩
def Bk_b12_0 {ρ : Type} (fu : Nat) (c : (Sl Int) × Int × Int) (k : Ex → St RT den → Option ρ) (w : Int) (go : (Int) → Option ρ) : Option ρ := F_slices_IndexFunc_int64_int64_w_impl_NodeFault_c2_B0 fu c.1 c.2.1 c.2.2 (fun a0 => k .ret ⟨(qs 4 ((.int .i64 a0) :: (qs 14 []))), []⟩) (k (.exit 0) ⟨(qs 19 []), []⟩) w go
def lp_b12 (fu : Nat) : Lp RT den (Int) := ⟨fun b s k => match b with | 0 => handle ps_b12_0 os_b12_0 conv_b12_0 (Bk_b12_0 fu) fu s k | _ => none, inl0⟩
theorem ev_b12 (fu : Nat) (s_0 : (Sl Int)) (f_1_1 : Int) : evFun E (pc_b12 fu) msk_b12 (lp_b12 fu) out_i64 87 [(.rs s_0.z .i64 s_0.n s_0.f), (.fn 64 [(.rptr [(.int .i64 f_1_1)])])] = F_slices_IndexFunc_int64_int64_w_impl_NodeFault_c2 fu s_0 f_1_1 := by kernel_rfl
noncomputable def body_b12 : Code := Try.f87.body.getD .skip
noncomputable def lc_b12_0 : Code := ((loops 0 body_b12).getD 0 (0, .skip)).2
theorem round_b12_0 (fu : Nat) (it : St RT den → Option (Int)) (k : Ex → St RT den → Option (Int)) c w : evCode E (pc_b12 fu) msk_b12 (lp_b12 fu) 0 lc_b12_0 (back_b12_0 c w) (after (msk_b12 0) (msk_b12 100000) 0 it k) = Bk_b12_0 fu c k w (fun w => it (back_b12_0 c w)) := by kernel_rfl
theorem lpok_b12_0 (fu : Nat) : ∀ s k r, (lp_b12 fu).lp 0 s k = some r → ∃ fuel, iter (msk_b12 0) (msk_b12 100000) s.objs.length (evCode E (pc_b12 fu) msk_b12 (lp_b12 fu) 0 lc_b12_0) fuel s k = some r :=
  handle_ok (ps := ps_b12_0) (os := os_b12_0) (conv := conv_b12_0) (B := Bk_b12_0 fu) (fu := fu) back_b12_0 (fun raw => by kernel_rfl) 0 (fun c w => by kernel_rfl) (round_b12_0 fu)
theorem lpok_b12 (fu : Nat) : LpOk E (pc_b12 fu) 0 msk_b12 (lp_b12 fu) (loops 0 body_b12) := lp_nil (loop_all 1 (by kernel_rfl) fun i hi => match i, hi with
  | 0, _ => by
    have h : (loops 0 body_b12).getD 0 (0, .skip) = (0, lc_b12_0) := by kernel_rfl
    rw [h]; exact lpok_b12_0 fu
  | i + 1, hi => absurd hi (by omega)) (by kernel_rfl)
def S_b12 (fu : Nat) (xs : List (D RT den)) : Option (Out RT den) := match xs with | [.rs za0_0 .i64 na0_0 fa0_0, .fn 64 [.rptr [.int .i64 a1_0]]] => some ⟨Int, F_slices_IndexFunc_int64_int64_w_impl_NodeFault_c2 fu (⟨za0_0, na0_0, fa0_0⟩ : (Sl Int)) a1_0, enc_i64, fun _ => true⟩ | _ => none
theorem hpc_b12 (fu : Nat) : ∀ f xs o, pcf_b12 fu f xs = some o → ∀ y, o.x = some y → Good E Try.prog f xs (o.g y) := by
  intro f xs o h
  unfold pcf_b12 at h
  split at h
  · exact good_b11 fu xs o h
  · cases h
theorem goodv_b12 (fu : Nat) (s_0 : (Sl Int)) (f_1_1 : Int) (y : Int) (hy : F_slices_IndexFunc_int64_int64_w_impl_NodeFault_c2 fu s_0 f_1_1 = some y) : Good E Try.prog 87 [(.rs s_0.z .i64 s_0.n s_0.f), (.fn 64 [(.rptr [(.int .i64 f_1_1)])])] (enc_i64 y) :=
  fun_good E_ok (pc_good (pc := pc_b12 fu) (hpc_b12 fu) hpx0) (fn := Try.f87) (c := body_b12) (out := out_i64) (y := y) (by kernel_rfl) (by kernel_rfl) (by kernel_rfl) (lpok_b12 fu) (fun d hd => out_i64_enc d _ hd) ((ev_b12 fu s_0 f_1_1).trans hy)
theorem good_b12 (fu : Nat) : ∀ xs o, S_b12 fu xs = some o → ∀ y, o.x = some y → Good E Try.prog 87 xs (o.g y) := by
  intro xs o h y hy
  unfold S_b12 at h
  split at h
  · rename_i za0_0 na0_0 fa0_0 a1_0
    cases h
    exact goodv_b12 fu (⟨za0_0, na0_0, fa0_0⟩ : (Sl Int)) a1_0 y hy
  · cases h

/-! slices.ContainsFunc[[]int64,int64] -/
def F_slices_ContainsFunc_int64_int64_w_impl_NodeFault_c2 (fu : Nat) (s_0 : (Sl Int)) (f_1_1 : Int) : Option (Bool) :=
  ((F_slices_IndexFunc_int64_int64_w_impl_NodeFault_c2 fu s_0 f_1_1).bind fun y365 => (some (decide (y365 ≥ 0))))
def pcf_b13 (fu : Nat) (f : Nat) (xs : List (D RT den)) : Option (Out RT den) := match f with | 87 => S_b12 fu xs | _ => none
def pc_b13 (fu : Nat) : Pc RT den := ⟨pcf_b13 fu, fun _ => false, fun _ => false, pcd0, pcd0, pcx0⟩
def msk_b13 (b : Nat) : List Nat := []
def lp_b13 (fu : Nat) : Lp RT den (Bool) := ⟨fun b s k => none, inl0⟩
theorem ev_b13 (fu : Nat) (s_0 : (Sl Int)) (f_1_1 : Int) : evFun E (pc_b13 fu) msk_b13 (lp_b13 fu) out_bo 62 [(.rs s_0.z .i64 s_0.n s_0.f), (.fn 64 [(.rptr [(.int .i64 f_1_1)])])] = F_slices_ContainsFunc_int64_int64_w_impl_NodeFault_c2 fu s_0 f_1_1 := by kernel_rfl
noncomputable def body_b13 : Code := Try.f62.body.getD .skip
theorem lpok_b13 (fu : Nat) : LpOk E (pc_b13 fu) 0 msk_b13 (lp_b13 fu) (loops 0 body_b13) := lp_nil (loop_nil (by kernel_rfl)) (by kernel_rfl)
def S_b13 (fu : Nat) (xs : List (D RT den)) : Option (Out RT den) := match xs with | [.rs za0_0 .i64 na0_0 fa0_0, .fn 64 [.rptr [.int .i64 a1_0]]] => some ⟨Bool, F_slices_ContainsFunc_int64_int64_w_impl_NodeFault_c2 fu (⟨za0_0, na0_0, fa0_0⟩ : (Sl Int)) a1_0, enc_bo, fun _ => true⟩ | _ => none
theorem hpc_b13 (fu : Nat) : ∀ f xs o, pcf_b13 fu f xs = some o → ∀ y, o.x = some y → Good E Try.prog f xs (o.g y) := by
  intro f xs o h
  unfold pcf_b13 at h
  split at h
  · exact good_b12 fu xs o h
  · cases h
theorem goodv_b13 (fu : Nat) (s_0 : (Sl Int)) (f_1_1 : Int) (y : Bool) (hy : F_slices_ContainsFunc_int64_int64_w_impl_NodeFault_c2 fu s_0 f_1_1 = some y) : Good E Try.prog 62 [(.rs s_0.z .i64 s_0.n s_0.f), (.fn 64 [(.rptr [(.int .i64 f_1_1)])])] (enc_bo y) :=
  fun_good E_ok (pc_good (pc := pc_b13 fu) (hpc_b13 fu) hpx0) (fn := Try.f62) (c := body_b13) (out := out_bo) (y := y) (by kernel_rfl) (by kernel_rfl) (by kernel_rfl) (lpok_b13 fu) (fun d hd => out_bo_enc d _ hd) ((ev_b13 fu s_0 f_1_1).trans hy)
theorem good_b13 (fu : Nat) : ∀ xs o, S_b13 fu xs = some o → ∀ y, o.x = some y → Good E Try.prog 62 xs (o.g y) := by
  intro xs o h y hy
  unfold S_b13 at h
  split at h
  · rename_i za0_0 na0_0 fa0_0 a1_0
    cases h
    exact goodv_b13 fu (⟨za0_0, na0_0, fa0_0⟩ : (Sl Int)) a1_0 y hy
  · cases h

/-! impl.NodeFault -/
def F_impl_NodeFault_B1 {ρ : Type} (fu : Nat) (t75_0 : (Sl Int)) (t76_1 : Int) (o0_3 : Int) (o0_4 : Int) (o0_5 : Int) (o0_6 : Int) (o0_7 : (Sl S_impl_Entry)) (o0_8 : Int) (o0_9 : Int) (o0_10 : (Sl Int)) (o0_11 : (Sl Int)) (o0_12 : (Sl Int)) (o1_13 : Int) (k0 : Option ρ) (k1 : Option ρ) (t77_2 : Int) (go : Int → Option ρ) : Option ρ :=
  (bif (decide (t77_2 < t76_1)) then ((bif (decide (0 ≤ t77_2) && decide ((Int.toNat t77_2) < t75_0.n)) then some () else none : Option Unit).bind fun _ => ((((F_impl_Node_isId fu (⟨o0_3,
    o0_4, o0_5, o0_6, o0_7, o0_8, o0_9, o0_10, o0_11, o0_12⟩ : S_impl_Node) (t75_0.f (Int.toNat t77_2))).bind fun y290 => (bif (!y290) then (some true) else (bif (decide (t77_2 > 0)) then
    ((bif (decide (0 ≤ (IntKind.wrap .i64 (t77_2 - 1))) && decide ((Int.toNat (IntKind.wrap .i64 (t77_2 - 1))) < o0_10.n)) then some () else none : Option Unit).bind fun _ => (some (decide ((t75_0.f (Int.toNat t77_2)) ≤ (o0_10.f (Int.toNat (IntKind.wrap .i64 (t77_2 - 1)))))))) else
    (some false)))) : Option Bool).bind fun m291 => (bif m291 then k0 else (go (IntKind.wrap .i64 (t77_2 + 1)))))) else k1)
def F_impl_NodeFault (fu : Nat) (t_0 : S_impl_Node) : Option (Int) :=
  ((((F_impl_in fu t_0.Peers 1 5).bind fun y276 => (bif (!y276) then (some true) else ((F_impl_Node_isId fu t_0 t_0.Id).bind fun y279 => (bif (!y279) then (some true) else
    ((F_impl_in fu t_0.Term 0 100000).bind fun y280 => (bif (!y280) then (some true) else (bif (t_0.Voted != (-1)) then ((F_impl_Node_isId fu t_0 t_0.Voted).bind fun y281 => (bif (!y281) then
    (some true) else ((F_impl_in fu t_0.Role 0 2).bind fun y282 => (some (!y282))))) else ((F_impl_in fu t_0.Role 0 2).bind fun y283 => (some (!y283)))))))))) : Option Bool).bind fun m284 =>
    (bif m284 then (some 3) else ((F_impl_LogFault fu t_0.Log).bind fun y285 => (bif (y285 != 0) then (some y285) else ((F_impl_size_impl_Entry fu t_0.Log).bind fun y286 =>
    ((F_impl_last fu t_0.Log).bind fun y287 => (bif (decide (y287.Term > t_0.Term)) then (some 1) else ((F_impl_in fu t_0.Commit 0 y286).bind fun y288 => (bif (!y288) then (some 3) else
    (((bif (decide (((t_0.Votes.n : Nat) : Int) > 0)) then (some (t_0.Role != 1)) else (some false)) : Option Bool).bind fun m289 => (bif m289 then (some 1) else (L (fun w1 go1 =>
    F_impl_NodeFault_B1 fu t_0.Votes ((t_0.Votes.n : Nat) : Int) t_0.Id t_0.Peers t_0.Term t_0.Voted t_0.Log t_0.Role t_0.Commit t_0.Votes t_0.Next t_0.Match y286 (some 1) (bif (t_0.Role == 2) then
    ((((F_impl_size_int64 fu t_0.Next).bind fun y292 => (bif (y292 != t_0.Peers) then (some true) else ((F_impl_size_int64 fu t_0.Match).bind fun y293 => (some (y293 != t_0.Peers))))) : Option Bool).bind fun m294 =>
    (bif m294 then (some 1) else ((F_slices_ContainsFunc_int64_int64_w_impl_NodeFault_c1 fu t_0.Next y286).bind fun y295 => (bif y295 then (some 3) else
    ((F_slices_ContainsFunc_int64_int64_w_impl_NodeFault_c2 fu t_0.Match y286).bind fun y296 => (bif y296 then (some 3) else (((bif (t_0.Role != 0) then (bif (t_0.Voted != t_0.Id) then
    (some true) else (some (t_0.Term == 0))) else (some false)) : Option Bool).bind fun m297 => (bif m297 then (some 1) else (some 0))))))))) else ((((F_impl_size_int64 fu t_0.Next).bind fun y298 =>
    (bif (y298 != 0) then (some true) else ((F_impl_size_int64 fu t_0.Match).bind fun y299 => (some (y299 != 0))))) : Option Bool).bind fun m300 => (bif m300 then (some 1) else
    ((F_slices_ContainsFunc_int64_int64_w_impl_NodeFault_c1 fu t_0.Next y286).bind fun y301 => (bif y301 then (some 3) else ((F_slices_ContainsFunc_int64_int64_w_impl_NodeFault_c2 fu t_0.Match y286).bind fun y302 =>
    (bif y302 then (some 3) else (((bif (t_0.Role != 0) then (bif (t_0.Voted != t_0.Id) then (some true) else (some (t_0.Term == 0))) else (some false)) : Option Bool).bind fun m303 =>
    (bif m303 then (some 1) else (some 0)))))))))) w1 go1) fu (0 : Int)))))))))))))
def pcf_b14 (fu : Nat) (f : Nat) (xs : List (D RT den)) : Option (Out RT den) := match f with | 35 => S_b6 fu xs | 37 => S_a32 fu xs | 58 => S_a35 fu xs | 59 => S_a36 fu xs | 60 => S_b5 fu xs | 61 => S_b7 fu xs | 62 => (match S_b10 fu xs with | some o => some o | none => S_b13 fu xs) | _ => none
def pc_b14 (fu : Nat) : Pc RT den := ⟨pcf_b14 fu, fun _ => false, fun _ => false, pcd0, pcd0, pcx0⟩
def msk_b14 (b : Nat) : List Nat := match b with | 1 => (0 :: 2 :: 3 :: (rg 5 70 (rg 78 66 []))) | 100001 => (0 :: 3 :: (rg 5 139 [])) | 200001 => [40] | 200011 => [64] | 200016 => [98] | 200022 => [105] | 200028 => [128] | _ => []
def ps_b14_1 : List (Pat RT) := (.flat .q :: .flat (.ref 0 0) :: .flat .q :: .flat .q :: .flat (.ref 1 0) :: (fq 70 (.flat (.rs .i64) :: .flat (.int .i64) :: .flat (.int .i64) :: (fq 66 []))))
def os_b14_1 : List (OP RT) := [.box false [(.int .i64), (.int .i64), (.int .i64), (.int .i64), (.rs .impl_Entry), (.int .i64), (.int .i64), (.rs .i64), (.rs .i64), (.rs .i64)], .box false [(.int .i64)]]
def conv_b14_1 (r : Raw den ps_b14_1 os_b14_1) : (Ye1) × (Int) := (((e5 (e10 (e20 (e40 r.1)))).1, (e5 (e10 (e20 (e40 r.1)))).2.1, r.2.1.1, r.2.1.2.1, r.2.1.2.2.1, r.2.1.2.2.2.1, r.2.1.2.2.2.2.1, (e5 r.2.1).1, (e5 r.2.1).2.1, (e5 r.2.1).2.2.1, (e5 r.2.1).2.2.2.1, (e5 r.2.1).2.2.2.2.1, r.2.2.1.1), (e5 (e10 (e20 (e40 r.1)))).2.2.1)
def back_b14_1 (c : Ye1) (w : Int) : St RT den := ⟨(.q :: (.ref 0 0) :: .q :: .q :: (.ref 1 0) :: (qs 70 ((.rs c.1.z .i64 c.1.n c.1.f) :: (.int .i64 c.2.1) :: (.int .i64 w) :: (qs 66 [])))), [(.box false [(.int .i64 c.2.2.1), (.int .i64 c.2.2.2.1), (.int .i64 c.2.2.2.2.1), (.int .i64 (e5 c).1), (.rs (e5 c).2.1.z .impl_Entry (e5 c).2.1.n (e5 c).2.1.f), (.int .i64 (e5 c).2.2.1), (.int .i64 (e5 c).2.2.2.1), (.rs (e5 c).2.2.2.2.1.z .i64 (e5 c).2.2.2.2.1.n (e5 c).2.2.2.2.1.f), (.rs (e10 c).1.z .i64 (e10 c).1.n (e10 c).1.f), (.rs (e10 c).2.1.z .i64 (e10 c).2.1.n (e10 c).2.1.f)]), (.box false [(.int .i64 (e10 c).2.2)])]⟩
def Bk_b14_1 {ρ : Type} (fu : Nat) (c : Ye1) (k : Ex → St RT den → Option ρ) (w : Int) (go : (Int) → Option ρ) : Option ρ := F_impl_NodeFault_B1 fu c.1 c.2.1 c.2.2.1 c.2.2.2.1 c.2.2.2.2.1 (e5 c).1 (e5 c).2.1 (e5 c).2.2.1 (e5 c).2.2.2.1 (e5 c).2.2.2.2.1 (e10 c).1 (e10 c).2.1 (e10 c).2.2 (k .ret ⟨(.q :: (.ref 0 0) :: (.int .i64 1) :: .q :: (.ref 1 0) :: (qs 139 [])), [(.box false [(.int .i64 c.2.2.1), (.int .i64 c.2.2.2.1), (.int .i64 c.2.2.2.2.1), (.int .i64 (e5 c).1), (.rs (e5 c).2.1.z .impl_Entry (e5 c).2.1.n (e5 c).2.1.f), (.int .i64 (e5 c).2.2.1), (.int .i64 (e5 c).2.2.2.1), (.rs (e5 c).2.2.2.2.1.z .i64 (e5 c).2.2.2.2.1.n (e5 c).2.2.2.2.1.f), (.rs (e10 c).1.z .i64 (e10 c).1.n (e10 c).1.f), (.rs (e10 c).2.1.z .i64 (e10 c).2.1.n (e10 c).2.1.f)]), (.box false [(.int .i64 (e10 c).2.2)])]⟩) (k (.exit 1) ⟨(.q :: (.ref 0 0) :: .q :: .q :: (.ref 1 0) :: (qs 139 [])), [(.box false [(.int .i64 c.2.2.1), (.int .i64 c.2.2.2.1), (.int .i64 c.2.2.2.2.1), (.int .i64 (e5 c).1), (.rs (e5 c).2.1.z .impl_Entry (e5 c).2.1.n (e5 c).2.1.f), (.int .i64 (e5 c).2.2.1), (.int .i64 (e5 c).2.2.2.1), (.rs (e5 c).2.2.2.2.1.z .i64 (e5 c).2.2.2.2.1.n (e5 c).2.2.2.2.1.f), (.rs (e10 c).1.z .i64 (e10 c).1.n (e10 c).1.f), (.rs (e10 c).2.1.z .i64 (e10 c).2.1.n (e10 c).2.1.f)]), (.box false [(.int .i64 (e10 c).2.2)])]⟩) w go
def lp_b14 (fu : Nat) : Lp RT den (Int) := ⟨fun b s k => match b with | 1 => handle ps_b14_1 os_b14_1 conv_b14_1 (Bk_b14_1 fu) fu s k | _ => none, inl0⟩
theorem ev_b14 (fu : Nat) (t_0 : S_impl_Node) : evFun E (pc_b14 fu) msk_b14 (lp_b14 fu) out_i64 19 [(.agg [(.int .i64 t_0.Id), (.int .i64 t_0.Peers), (.int .i64 t_0.Term), (.int .i64 t_0.Voted), (.rs t_0.Log.z .impl_Entry t_0.Log.n t_0.Log.f), (.int .i64 t_0.Role), (.int .i64 t_0.Commit), (.rs t_0.Votes.z .i64 t_0.Votes.n t_0.Votes.f), (.rs t_0.Next.z .i64 t_0.Next.n t_0.Next.f), (.rs t_0.Match.z .i64 t_0.Match.n t_0.Match.f)])] = F_impl_NodeFault fu t_0 := by kernel_rfl
noncomputable def body_b14 : Code := Try.f19.body.getD .skip
noncomputable def lc_b14_1 : Code := ((loops 0 body_b14).getD 0 (0, .skip)).2
theorem round_b14_1 (fu : Nat) (it : St RT den → Option (Int)) (k : Ex → St RT den → Option (Int)) c w : evCode E (pc_b14 fu) msk_b14 (lp_b14 fu) 1 lc_b14_1 (back_b14_1 c w) (after (msk_b14 1) (msk_b14 100001) 2 it k) = Bk_b14_1 fu c k w (fun w => it (back_b14_1 c w)) := by kernel_rfl
theorem lpok_b14_1 (fu : Nat) : ∀ s k r, (lp_b14 fu).lp 1 s k = some r → ∃ fuel, iter (msk_b14 1) (msk_b14 100001) s.objs.length (evCode E (pc_b14 fu) msk_b14 (lp_b14 fu) 1 lc_b14_1) fuel s k = some r :=
  handle_ok (ps := ps_b14_1) (os := os_b14_1) (conv := conv_b14_1) (B := Bk_b14_1 fu) (fu := fu) back_b14_1 (fun raw => by kernel_rfl) 2 (fun c w => by kernel_rfl) (round_b14_1 fu)
theorem lpok_b14 (fu : Nat) : LpOk E (pc_b14 fu) 0 msk_b14 (lp_b14 fu) (loops 0 body_b14) := lp_nil (loop_all 1 (by kernel_rfl) fun i hi => match i, hi with
  | 0, _ => by
    have h : (loops 0 body_b14).getD 0 (0, .skip) = (1, lc_b14_1) := by kernel_rfl
    rw [h]; exact lpok_b14_1 fu
  | i + 1, hi => absurd hi (by omega)) (by kernel_rfl)
def S_b14 (fu : Nat) (xs : List (D RT den)) : Option (Out RT den) := match xs with | [.agg [.int .i64 a0_1, .int .i64 a0_2, .int .i64 a0_3, .int .i64 a0_4, .rs za0_5 .impl_Entry na0_5 fa0_5, .int .i64 a0_6, .int .i64 a0_7, .rs za0_8 .i64 na0_8 fa0_8, .rs za0_9 .i64 na0_9 fa0_9, .rs za0_10 .i64 na0_10 fa0_10]] => some ⟨Int, F_impl_NodeFault fu (⟨a0_1, a0_2, a0_3, a0_4, (⟨za0_5, na0_5, fa0_5⟩ : (Sl S_impl_Entry)), a0_6, a0_7, (⟨za0_8, na0_8, fa0_8⟩ : (Sl Int)), (⟨za0_9, na0_9, fa0_9⟩ : (Sl Int)), (⟨za0_10, na0_10, fa0_10⟩ : (Sl Int))⟩ : S_impl_Node), enc_i64, fun _ => true⟩ | _ => none
theorem hpc_b14 (fu : Nat) : ∀ f xs o, pcf_b14 fu f xs = some o → ∀ y, o.x = some y → Good E Try.prog f xs (o.g y) := by
  intro f xs o h
  unfold pcf_b14 at h
  split at h
  · exact good_b6 fu xs o h
  · exact good_a32 fu xs o h
  · exact good_a35 fu xs o h
  · exact good_a36 fu xs o h
  · exact good_b5 fu xs o h
  · exact good_b7 fu xs o h
  · split at h
    · rename_i o' ho; cases h; exact good_b10 fu xs _ ho
    · exact good_b13 fu xs o h
  · cases h
theorem goodv_b14 (fu : Nat) (t_0 : S_impl_Node) (y : Int) (hy : F_impl_NodeFault fu t_0 = some y) : Good E Try.prog 19 [(.agg [(.int .i64 t_0.Id), (.int .i64 t_0.Peers), (.int .i64 t_0.Term), (.int .i64 t_0.Voted), (.rs t_0.Log.z .impl_Entry t_0.Log.n t_0.Log.f), (.int .i64 t_0.Role), (.int .i64 t_0.Commit), (.rs t_0.Votes.z .i64 t_0.Votes.n t_0.Votes.f), (.rs t_0.Next.z .i64 t_0.Next.n t_0.Next.f), (.rs t_0.Match.z .i64 t_0.Match.n t_0.Match.f)])] (enc_i64 y) :=
  fun_good E_ok (pc_good (pc := pc_b14 fu) (hpc_b14 fu) hpx0) (fn := Try.f19) (c := body_b14) (out := out_i64) (y := y) (by kernel_rfl) (by kernel_rfl) (by kernel_rfl) (lpok_b14 fu) (fun d hd => out_i64_enc d _ hd) ((ev_b14 fu t_0).trans hy)
theorem good_b14 (fu : Nat) : ∀ xs o, S_b14 fu xs = some o → ∀ y, o.x = some y → Good E Try.prog 19 xs (o.g y) := by
  intro xs o h y hy
  unfold S_b14 at h
  split at h
  · rename_i a0_1 a0_2 a0_3 a0_4 za0_5 na0_5 fa0_5 a0_6 a0_7 za0_8 na0_8 fa0_8 za0_9 na0_9 fa0_9 za0_10 na0_10 fa0_10
    cases h
    exact goodv_b14 fu (⟨a0_1, a0_2, a0_3, a0_4, (⟨za0_5, na0_5, fa0_5⟩ : (Sl S_impl_Entry)), a0_6, a0_7, (⟨za0_8, na0_8, fa0_8⟩ : (Sl Int)), (⟨za0_9, na0_9, fa0_9⟩ : (Sl Int)), (⟨za0_10, na0_10, fa0_10⟩ : (Sl Int))⟩ : S_impl_Node) y hy
  · cases h

/-! impl.TimeoutNode -/
def F_impl_TimeoutNode_U_i0_B0 {ρ : Type} (fu : Nat) (with1_0 : Int) (with1_1 : Int) (with1_2 : Int) (with1_3 : Int) (with1_4 : (Sl S_impl_Entry)) (with1_5 : Int) (with1_6 : Int) (with1_7 : (Sl Int)) (with1_8 : (Sl Int)) (with1_9 : (Sl Int)) (t8_10 : Int) (h23_12 : Int) (h23_13 : Int) (h23_14 : Int) (h23_15 : Int) (h23_16 : (Sl S_impl_Entry)) (h23_17 : Int) (h23_18 : Int) (h23_19 : (Sl Int)) (h23_20 : (Sl Int)) (h23_21 : (Sl Int)) (h60_22 : Int) (h60_23 : Int) (h60_24 : Int) (h60_25 : Int) (h60_26 : (Sl S_impl_Entry)) (h60_27 : Int) (h60_28 : Int) (h60_29 : (Sl Int)) (h60_30 : (Sl Int)) (h60_31 : (Sl Int)) (o0_32 : Int) (o0_33 : Int) (o0_34 : Int) (o0_35 : Int) (o0_36 : Int) (o0_37 : Int) (o0_38 : Int) (o2_39 : Int) (o2_40 : Int) (o2_41 : Int) (o2_42 : Int) (o2_43 : Nat) (o2_44 : Int) (o2_45 : Int) (o2_46 : Nat) (o2_47 : Nat) (o2_48 : Nat) (on4_50 : Nat) (of4_51 : (Nat → S_impl_Entry)) (on5_52 : Nat) (of5_53 : (Nat → Int)) (on6_54 : Nat) (of6_55 : (Nat → Int)) (on7_56 : Nat) (of7_57 : (Nat → Int)) (on8_58 : Nat) (of8_59 : (Nat → Int)) (k0 : Nat → Nat → Nat → (Nat → S_impl_Mail) → Option ρ) (t9_11 : Int) (o3_49 : Nat) (on9_60 : Nat) (op9_61 : Nat) (of9_62 : (Nat → S_impl_Mail)) (go : Int → Nat → Nat → Nat → (Nat → S_impl_Mail) → Option ρ) : Option ρ :=
  (bif (decide (t9_11 < t8_10)) then (bif (t9_11 != o2_39) then ((F_impl_size_impl_Entry fu with1_4).bind fun y245 => ((F_impl_last fu with1_4).bind fun y246 => (bif (decide (o3_49 ≤ op9_61) &&
    (decide ((o3_49 + 1) ≤ 9223372036854775807) && decide ((o3_49 + 1) * 88 ≤ 140737488355328))) then (go (IntKind.wrap .i64 (t9_11 + 1)) (o3_49 + 1) (o3_49 + 1) (o3_49 + 1) (fun i =>
    if i < o3_49 then (of9_62 i) else (⟨1, with1_0, t9_11, o2_41, y245, y246.Term, 0, false, (⟨(some true), 0, (fun _ => dflt .impl_Entry)⟩ : (Sl S_impl_Entry))⟩ : S_impl_Mail))) else
    none))) else (go (IntKind.wrap .i64 (t9_11 + 1)) o3_49 on9_60 op9_61 of9_62)) else (k0 o3_49 on9_60 op9_61 of9_62))
def F_impl_TimeoutNode_U (fu : Nat) (n_0 : S_impl_Node) : Option (Ye2) :=
  ((F_impl_NodeFault fu n_0).bind fun y243 => (bif (y243 != 0) then (bif (decide ((0 : Nat) = 0) && true) then (some (y243, 0, 0, 0, 0, 0, 0, 0, 0, 0, 0, 0, 0, (fun _ => dflt .impl_Entry),
    0, (fun _ => dflt .i64), 0, (fun _ => dflt .i64), 0, (fun _ => dflt .i64), 0, (fun _ => dflt .impl_Mail))) else none) else (bif (n_0.Role == 2) then (bif (decide ((0 : Nat) = 0) &&
    true) then (some (10, 0, 0, 0, 0, 0, 0, 0, 0, 0, 0, 0, 0, (fun _ => dflt .impl_Entry), 0, (fun _ => dflt .i64), 0, (fun _ => dflt .i64), 0, (fun _ => dflt .i64), 0, (fun _ =>
    dflt .impl_Mail))) else none) else (bif (n_0.Term == 100000) then (bif (decide ((0 : Nat) = 0) && true) then (some (3, 0, 0, 0, 0, 0, 0, 0, 0, 0, 0, 0, 0, (fun _ => dflt .impl_Entry),
    0, (fun _ => dflt .i64), 0, (fun _ => dflt .i64), 0, (fun _ => dflt .i64), 0, (fun _ => dflt .impl_Mail))) else none) else ((F_impl_Node_copied_H fu n_0).bind fun y244 => (L (fun w0 go0 =>
    F_impl_TimeoutNode_U_i0_B0 fu n_0.Id n_0.Peers n_0.Term n_0.Voted n_0.Log n_0.Role n_0.Commit n_0.Votes n_0.Next n_0.Match y244.Peers n_0.Id n_0.Peers n_0.Term n_0.Voted n_0.Log n_0.Role n_0.Commit n_0.Votes n_0.Next n_0.Match n_0.Id n_0.Peers n_0.Term n_0.Voted n_0.Log n_0.Role n_0.Commit n_0.Votes n_0.Next n_0.Match 0 0 0 0 0 0 0 y244.Id y244.Peers (IntKind.wrap .i64 (y244.Term + 1)) n_0.Id y244.Log.n 1 y244.Commit 1 y244.Next.n y244.Match.n y244.Log.n y244.Log.f y244.Votes.n y244.Votes.f y244.Next.n y244.Next.f y244.Match.n y244.Match.f 1 (fun i =>
    ([n_0.Id] : List (Int)).getD i (dflt .i64)) (fun z247 z248 z249 z250 => ((F_impl_Node_isQuorum fu (⟨y244.Id, y244.Peers, (IntKind.wrap .i64 (y244.Term + 1)), n_0.Id, (⟨none,
    y244.Log.n, y244.Log.f⟩ : (Sl S_impl_Entry)), 1, y244.Commit, (⟨none, 1, (fun i => ([n_0.Id] : List (Int)).getD i (dflt .i64))⟩ : (Sl Int)), (⟨none, y244.Next.n, y244.Next.f⟩ : (Sl Int)),
    (⟨none, y244.Match.n, y244.Match.f⟩ : (Sl Int))⟩ : S_impl_Node) 1).bind fun y251 => (bif y251 then ((F_impl_Node_lead_M fu y244.Id y244.Peers (IntKind.wrap .i64 (y244.Term + 1)) n_0.Id y244.Log.n 1 y244.Commit 1 y244.Next.n y244.Match.n y244.Log.n y244.Log.f 1 (fun i =>
    ([n_0.Id] : List (Int)).getD i (dflt .i64)) y244.Next.n y244.Next.f y244.Match.n y244.Match.f).bind fun y275 => (bif (decide (z247 ≤ z249) && true) then (bif (decide (z247 = z247) &&
    true) then (some (0, y275.1, y275.2.1, y275.2.2.1, y275.2.2.2.1, y275.2.2.2.2.1, y275.2.2.2.2.2.1, y275.2.2.2.2.2.2.1, 0, y275.2.2.2.2.2.2.2.1, y275.2.2.2.2.2.2.2.2.1, z247,
    y275.2.2.2.2.1, y275.2.2.2.2.2.2.2.2.2.2.1, 0, (fun _ => dflt .i64), y275.2.2.2.2.2.2.2.1, y275.2.2.2.2.2.2.2.2.2.2.2.2.2.2.2.2.2.2.1, y275.2.2.2.2.2.2.2.2.1,
    y275.2.2.2.2.2.2.2.2.2.2.2.2.2.2.2.2.2.2.2.2, z247, z250)) else none) else none)) else (bif (decide (z247 ≤ z249) && true) then (bif (decide (z247 = z247) && true) then (some (0,
    y244.Id, y244.Peers, (IntKind.wrap .i64 (y244.Term + 1)), n_0.Id, y244.Log.n, 1, y244.Commit, 1, y244.Next.n, y244.Match.n, z247, y244.Log.n, y244.Log.f, 1, (fun i => ([n_0.Id] : List (Int)).getD i (dflt .i64)),
    y244.Next.n, y244.Next.f, y244.Match.n, y244.Match.f, z247, z250)) else none) else none)))) w0.1 w0.2.1 w0.2.2.1 w0.2.2.2.1 w0.2.2.2.2 (fun q0 q1 q2 q3 q4 => go0 (q0, q1, q2,
    q3, q4))) fu ((0, 0, 0, 0, (fun _ => dflt .impl_Mail)) : Ye0)))))))
def pcf_b15 (fu : Nat) (f : Nat) (xs : List (D RT den)) : Option (Out RT den) := match f with | 19 => S_b14 fu xs | 35 => S_b6 fu xs | 37 => S_a32 fu xs | 50 => S_a28 fu xs | _ => none
def pcx_b15 (fu : Nat) (f : Nat) (xs : List (D RT den)) (ins : List (Ob RT den)) : Option (OutX RT den) := match f with | 32 => S_a27 fu xs ins | 51 => S_a34 fu xs ins | _ => none
def pcd_b15 : Nat → Bool := fun _ => false
def pc_b15 (fu : Nat) : Pc RT den := ⟨pcf_b15 fu, fun f => match f with | 32 => true | 51 => true | _ => false, fun f => match f with | 51 => true | _ => false, pcd_b15, pcd0, pcx_b15 fu⟩
def msk_b15i0i0 (b : Nat) : List Nat := []
noncomputable def body_b15i0i0 : Code := Try.f49.body.getD .skip
def msk_b15i0 (b : Nat) : List Nat := match b with | 0 => (rg 2 6 (rg 10 12 [])) | 100000 => (rg 0 22 []) | 300000 => [1003000, 5000009] | 600004 => [2000] | 800004 => (2 :: 3 :: 5 :: 6 :: 7 :: (rg 10 12 [])) | _ => []
noncomputable def body_b15i0 : Code := Try.f33.body.getD .skip
def msk_b15 (b : Nat) : List Nat := match b with | 500010 => [1] | 600010 => [4990] | 800010 => (0 :: 3 :: (rg 6 39 [])) | 600011 => [1000] | 800011 => (0 :: 3 :: (rg 6 39 [])) | _ => []
def ps_b15i0_0 : List (Pat RT) := (.flat (.ref 2 0) :: .fn 49 [.flat (.ref 3 0), .rptr [(.int .i64), (.int .i64), (.int .i64), (.int .i64), (.rs .impl_Entry), (.int .i64), (.int .i64), (.rs .i64), (.rs .i64), (.rs .i64)], .flat (.ref 2 0)] :: (fq 6 (.flat (.int .i64) :: .flat (.int .i64) :: (fq 13 (.rptr [(.int .i64), (.int .i64), (.int .i64), (.int .i64), (.rs .impl_Entry), (.int .i64), (.int .i64), (.rs .i64), (.rs .i64), (.rs .i64)] :: .flat (.ref 0 0) :: .flat .q :: .flat (.ref 2 0) :: .flat (.ref 3 0) :: (fq 32 (.fn 49 [.flat (.ref 3 0), .rptr [(.int .i64), (.int .i64), (.int .i64), (.int .i64), (.rs .impl_Entry), (.int .i64), (.int .i64), (.rs .i64), (.rs .i64), (.rs .i64)], .flat (.ref 2 0)] :: (fq 6 []))))))))
def os_b15i0_0 : List (OP RT) := [.box false [(.int .i64), (.int .i64), (.int .i64), (.int .i64), (.int .i64), (.emp true .impl_Entry), (.int .i64), (.int .i64), (.emp true .i64), (.emp true .i64), (.emp true .i64), (.emp true .impl_Mail)], .gone, .box false [(.int .i64), (.int .i64), (.int .i64), (.int .i64), (.os 4), (.int .i64), (.int .i64), (.os 8), (.os 6), (.os 7)], .box false [(.os 9)], .row false .impl_Entry, .row false .i64, .row false .i64, .row false .i64, .row false .i64, .deep false .impl_Mail]
def conv_b15i0_0 (r : Raw den ps_b15i0_0 os_b15i0_0) : (Ye3) × (Ye0) := ((r.1.2.1.2.1.1, r.1.2.1.2.1.2.1, r.1.2.1.2.1.2.2.1, r.1.2.1.2.1.2.2.2.1, r.1.2.1.2.1.2.2.2.2.1, (e5 r.1.2.1.2.1).1, (e5 r.1.2.1.2.1).2.1, (e5 r.1.2.1.2.1).2.2.1, (e5 r.1.2.1.2.1).2.2.2.1, (e5 r.1.2.1.2.1).2.2.2.2.1, (e5 r.1).2.2.2.1, (e20 r.1).2.2.2.1.1, (e20 r.1).2.2.2.1.2.1, (e20 r.1).2.2.2.1.2.2.1, (e20 r.1).2.2.2.1.2.2.2.1, (e20 r.1).2.2.2.1.2.2.2.2.1, (e5 r.1.2.2.2.2.2.2.2.2.2.2.2.2.2.2.2.2.2.2.2.2.2.2.2.1).1, (e5 r.1.2.2.2.2.2.2.2.2.2.2.2.2.2.2.2.2.2.2.2.2.2.2.2.1).2.1, (e5 r.1.2.2.2.2.2.2.2.2.2.2.2.2.2.2.2.2.2.2.2.2.2.2.2.1).2.2.1, (e5 r.1.2.2.2.2.2.2.2.2.2.2.2.2.2.2.2.2.2.2.2.2.2.2.2.1).2.2.2.1, (e5 r.1.2.2.2.2.2.2.2.2.2.2.2.2.2.2.2.2.2.2.2.2.2.2.2.1).2.2.2.2.1, (e20 (e40 r.1)).1.2.1.1, (e20 (e40 r.1)).1.2.1.2.1, (e20 (e40 r.1)).1.2.1.2.2.1, (e20 (e40 r.1)).1.2.1.2.2.2.1, (e20 (e40 r.1)).1.2.1.2.2.2.2.1, (e5 r.1.2.2.2.2.2.2.2.2.2.2.2.2.2.2.2.2.2.2.2.2.2.2.2.2.2.2.2.2.2.2.2.2.2.2.2.2.2.2.2.2.2.2.2.2.2.2.2.2.2.2.2.2.2.2.2.2.2.2.2.2.1.2.1).1, (e5 r.1.2.2.2.2.2.2.2.2.2.2.2.2.2.2.2.2.2.2.2.2.2.2.2.2.2.2.2.2.2.2.2.2.2.2.2.2.2.2.2.2.2.2.2.2.2.2.2.2.2.2.2.2.2.2.2.2.2.2.2.2.1.2.1).2.1, (e5 r.1.2.2.2.2.2.2.2.2.2.2.2.2.2.2.2.2.2.2.2.2.2.2.2.2.2.2.2.2.2.2.2.2.2.2.2.2.2.2.2.2.2.2.2.2.2.2.2.2.2.2.2.2.2.2.2.2.2.2.2.2.1.2.1).2.2.1, (e5 r.1.2.2.2.2.2.2.2.2.2.2.2.2.2.2.2.2.2.2.2.2.2.2.2.2.2.2.2.2.2.2.2.2.2.2.2.2.2.2.2.2.2.2.2.2.2.2.2.2.2.2.2.2.2.2.2.2.2.2.2.2.1.2.1).2.2.2.1, (e5 r.1.2.2.2.2.2.2.2.2.2.2.2.2.2.2.2.2.2.2.2.2.2.2.2.2.2.2.2.2.2.2.2.2.2.2.2.2.2.2.2.2.2.2.2.2.2.2.2.2.2.2.2.2.2.2.2.2.2.2.2.2.1.2.1).2.2.2.2.1, r.2.1.1, r.2.1.2.1, r.2.1.2.2.1, r.2.1.2.2.2.1, r.2.1.2.2.2.2.1, (e5 r.2.1).2.1, (e5 r.2.1).2.2.1, r.2.2.2.1.1, r.2.2.2.1.2.1, r.2.2.2.1.2.2.1, r.2.2.2.1.2.2.2.1, r.2.2.2.1.2.2.2.2.1, (e5 r.2.2.2.1).1, (e5 r.2.2.2.1).2.1, (e5 r.2.2.2.1).2.2.1, (e5 r.2.2.2.1).2.2.2.1, (e5 r.2.2.2.1).2.2.2.2.1, (e5 r).1.1, (e5 r).1.2, (e5 r).2.1.1, (e5 r).2.1.2, (e5 r).2.2.1.1, (e5 r).2.2.1.2, (e5 r).2.2.2.1.1, (e5 r).2.2.2.1.2, (e5 r).2.2.2.2.1.1, (e5 r).2.2.2.2.1.2), ((e5 r.1).2.2.2.2.1, r.2.2.2.2.1.1, (e10 r).1.1, (e10 r).1.2.1, (e10 r).1.2.2))
def back_b15i0_0 (c : Ye3) (w : Ye0) : St RT den := ⟨((.ref 2 0) :: (.fn 49 [(.ref 3 0), (.rptr [(.int .i64 c.1), (.int .i64 c.2.1), (.int .i64 c.2.2.1), (.int .i64 c.2.2.2.1), (.rs c.2.2.2.2.1.z .impl_Entry c.2.2.2.2.1.n c.2.2.2.2.1.f), (.int .i64 (e5 c).1), (.int .i64 (e5 c).2.1), (.rs (e5 c).2.2.1.z .i64 (e5 c).2.2.1.n (e5 c).2.2.1.f), (.rs (e5 c).2.2.2.1.z .i64 (e5 c).2.2.2.1.n (e5 c).2.2.2.1.f), (.rs (e5 c).2.2.2.2.1.z .i64 (e5 c).2.2.2.2.1.n (e5 c).2.2.2.2.1.f)]), (.ref 2 0)]) :: (qs 6 ((.int .i64 (e10 c).1) :: (.int .i64 w.1) :: (qs 13 ((.rptr [(.int .i64 (e10 c).2.1), (.int .i64 (e10 c).2.2.1), (.int .i64 (e10 c).2.2.2.1), (.int .i64 (e10 c).2.2.2.2.1), (.rs (e5 (e10 c)).1.z .impl_Entry (e5 (e10 c)).1.n (e5 (e10 c)).1.f), (.int .i64 (e5 (e10 c)).2.1), (.int .i64 (e5 (e10 c)).2.2.1), (.rs (e5 (e10 c)).2.2.2.1.z .i64 (e5 (e10 c)).2.2.2.1.n (e5 (e10 c)).2.2.2.1.f), (.rs (e5 (e10 c)).2.2.2.2.1.z .i64 (e5 (e10 c)).2.2.2.2.1.n (e5 (e10 c)).2.2.2.2.1.f), (.rs (e20 c).1.z .i64 (e20 c).1.n (e20 c).1.f)]) :: (.ref 0 0) :: .q :: (.ref 2 0) :: (.ref 3 0) :: (qs 32 ((.fn 49 [(.ref 3 0), (.rptr [(.int .i64 (e20 c).2.1), (.int .i64 (e20 c).2.2.1), (.int .i64 (e20 c).2.2.2.1), (.int .i64 (e20 c).2.2.2.2.1), (.rs (e5 (e20 c)).1.z .impl_Entry (e5 (e20 c)).1.n (e5 (e20 c)).1.f), (.int .i64 (e5 (e20 c)).2.1), (.int .i64 (e5 (e20 c)).2.2.1), (.rs (e5 (e20 c)).2.2.2.1.z .i64 (e5 (e20 c)).2.2.2.1.n (e5 (e20 c)).2.2.2.1.f), (.rs (e5 (e20 c)).2.2.2.2.1.z .i64 (e5 (e20 c)).2.2.2.2.1.n (e5 (e20 c)).2.2.2.2.1.f), (.rs (e10 (e20 c)).1.z .i64 (e10 (e20 c)).1.n (e10 (e20 c)).1.f)]), (.ref 2 0)]) :: (qs 6 [])))))))), [(.box false [(.int .i64 (e10 (e20 c)).2.1), (.int .i64 (e10 (e20 c)).2.2.1), (.int .i64 (e10 (e20 c)).2.2.2.1), (.int .i64 (e10 (e20 c)).2.2.2.2.1), (.int .i64 (e5 (e10 (e20 c))).1), (.emp true .impl_Entry), (.int .i64 (e5 (e10 (e20 c))).2.1), (.int .i64 (e5 (e10 (e20 c))).2.2.1), (.emp true .i64), (.emp true .i64), (.emp true .i64), (.emp true .impl_Mail)]), .gone, (.box false [(.int .i64 (e5 (e10 (e20 c))).2.2.2.1), (.int .i64 (e5 (e10 (e20 c))).2.2.2.2.1), (.int .i64 (e40 c).1), (.int .i64 (e40 c).2.1), (.os 4 (e40 c).2.2.1), (.int .i64 (e40 c).2.2.2.1), (.int .i64 (e40 c).2.2.2.2.1), (.os 8 (e5 (e40 c)).1), (.os 6 (e5 (e40 c)).2.1), (.os 7 (e5 (e40 c)).2.2.1)]), (.box false [(.os 9 w.2.1)]), (.row false .impl_Entry (e5 (e40 c)).2.2.2.1 (e5 (e40 c)).2.2.2.2.1), (.row false .i64 (e10 (e40 c)).1 (e10 (e40 c)).2.1), (.row false .i64 (e10 (e40 c)).2.2.1 (e10 (e40 c)).2.2.2.1), (.row false .i64 (e10 (e40 c)).2.2.2.2.1 (e5 (e10 (e40 c))).1), (.row false .i64 (e5 (e10 (e40 c))).2.1 (e5 (e10 (e40 c))).2.2), (.deep false .impl_Mail w.2.2.1 w.2.2.2.1 w.2.2.2.2)]⟩
def Bk_b15i0_0 {ρ : Type} (fu : Nat) (c : Ye3) (k : Ex → St RT den → Option ρ) (w : Ye0) (go : (Ye0) → Option ρ) : Option ρ := F_impl_TimeoutNode_U_i0_B0 fu c.1 c.2.1 c.2.2.1 c.2.2.2.1 c.2.2.2.2.1 (e5 c).1 (e5 c).2.1 (e5 c).2.2.1 (e5 c).2.2.2.1 (e5 c).2.2.2.2.1 (e10 c).1 (e10 c).2.1 (e10 c).2.2.1 (e10 c).2.2.2.1 (e10 c).2.2.2.2.1 (e5 (e10 c)).1 (e5 (e10 c)).2.1 (e5 (e10 c)).2.2.1 (e5 (e10 c)).2.2.2.1 (e5 (e10 c)).2.2.2.2.1 (e20 c).1 (e20 c).2.1 (e20 c).2.2.1 (e20 c).2.2.2.1 (e20 c).2.2.2.2.1 (e5 (e20 c)).1 (e5 (e20 c)).2.1 (e5 (e20 c)).2.2.1 (e5 (e20 c)).2.2.2.1 (e5 (e20 c)).2.2.2.2.1 (e10 (e20 c)).1 (e10 (e20 c)).2.1 (e10 (e20 c)).2.2.1 (e10 (e20 c)).2.2.2.1 (e10 (e20 c)).2.2.2.2.1 (e5 (e10 (e20 c))).1 (e5 (e10 (e20 c))).2.1 (e5 (e10 (e20 c))).2.2.1 (e5 (e10 (e20 c))).2.2.2.1 (e5 (e10 (e20 c))).2.2.2.2.1 (e40 c).1 (e40 c).2.1 (e40 c).2.2.1 (e40 c).2.2.2.1 (e40 c).2.2.2.2.1 (e5 (e40 c)).1 (e5 (e40 c)).2.1 (e5 (e40 c)).2.2.1 (e5 (e40 c)).2.2.2.1 (e5 (e40 c)).2.2.2.2.1 (e10 (e40 c)).1 (e10 (e40 c)).2.1 (e10 (e40 c)).2.2.1 (e10 (e40 c)).2.2.2.1 (e10 (e40 c)).2.2.2.2.1 (e5 (e10 (e40 c))).1 (e5 (e10 (e40 c))).2.1 (e5 (e10 (e40 c))).2.2 (fun a0 a1 a2 a3 => k (.exit 0) ⟨(qs 23 ((.rptr [(.int .i64 (e10 c).2.1), (.int .i64 (e10 c).2.2.1), (.int .i64 (e10 c).2.2.2.1), (.int .i64 (e10 c).2.2.2.2.1), (.rs (e5 (e10 c)).1.z .impl_Entry (e5 (e10 c)).1.n (e5 (e10 c)).1.f), (.int .i64 (e5 (e10 c)).2.1), (.int .i64 (e5 (e10 c)).2.2.1), (.rs (e5 (e10 c)).2.2.2.1.z .i64 (e5 (e10 c)).2.2.2.1.n (e5 (e10 c)).2.2.2.1.f), (.rs (e5 (e10 c)).2.2.2.2.1.z .i64 (e5 (e10 c)).2.2.2.2.1.n (e5 (e10 c)).2.2.2.2.1.f), (.rs (e20 c).1.z .i64 (e20 c).1.n (e20 c).1.f)]) :: (.ref 0 0) :: .q :: (.ref 2 0) :: (.ref 3 0) :: (qs 32 ((.fn 49 [(.ref 3 0), (.rptr [(.int .i64 (e20 c).2.1), (.int .i64 (e20 c).2.2.1), (.int .i64 (e20 c).2.2.2.1), (.int .i64 (e20 c).2.2.2.2.1), (.rs (e5 (e20 c)).1.z .impl_Entry (e5 (e20 c)).1.n (e5 (e20 c)).1.f), (.int .i64 (e5 (e20 c)).2.1), (.int .i64 (e5 (e20 c)).2.2.1), (.rs (e5 (e20 c)).2.2.2.1.z .i64 (e5 (e20 c)).2.2.2.1.n (e5 (e20 c)).2.2.2.1.f), (.rs (e5 (e20 c)).2.2.2.2.1.z .i64 (e5 (e20 c)).2.2.2.2.1.n (e5 (e20 c)).2.2.2.2.1.f), (.rs (e10 (e20 c)).1.z .i64 (e10 (e20 c)).1.n (e10 (e20 c)).1.f)]), (.ref 2 0)]) :: (qs 6 []))))), [(.box false [(.int .i64 (e10 (e20 c)).2.1), (.int .i64 (e10 (e20 c)).2.2.1), (.int .i64 (e10 (e20 c)).2.2.2.1), (.int .i64 (e10 (e20 c)).2.2.2.2.1), (.int .i64 (e5 (e10 (e20 c))).1), (.emp true .impl_Entry), (.int .i64 (e5 (e10 (e20 c))).2.1), (.int .i64 (e5 (e10 (e20 c))).2.2.1), (.emp true .i64), (.emp true .i64), (.emp true .i64), (.emp true .impl_Mail)]), .gone, (.box false [(.int .i64 (e5 (e10 (e20 c))).2.2.2.1), (.int .i64 (e5 (e10 (e20 c))).2.2.2.2.1), (.int .i64 (e40 c).1), (.int .i64 (e40 c).2.1), (.os 4 (e40 c).2.2.1), (.int .i64 (e40 c).2.2.2.1), (.int .i64 (e40 c).2.2.2.2.1), (.os 8 (e5 (e40 c)).1), (.os 6 (e5 (e40 c)).2.1), (.os 7 (e5 (e40 c)).2.2.1)]), (.box false [(.os 9 a0)]), (.row false .impl_Entry (e5 (e40 c)).2.2.2.1 (e5 (e40 c)).2.2.2.2.1), (.row false .i64 (e10 (e40 c)).1 (e10 (e40 c)).2.1), (.row false .i64 (e10 (e40 c)).2.2.1 (e10 (e40 c)).2.2.2.1), (.row false .i64 (e10 (e40 c)).2.2.2.2.1 (e5 (e10 (e40 c))).1), (.row false .i64 (e5 (e10 (e40 c))).2.1 (e5 (e10 (e40 c))).2.2), (.deep false .impl_Mail a1 a2 a3)]⟩) w.1 w.2.1 w.2.2.1 w.2.2.2.1 w.2.2.2.2 (fun q0 q1 q2 q3 q4 => go (q0, q1, q2, q3, q4))
def lp_b15i0i0 (fu : Nat) : Lp RT den (Ye2) := ⟨fun b s k => none, inl0⟩
noncomputable def lp_b15i0 (fu : Nat) : Lp RT den (Ye2) := ⟨fun b s k => match b with | 0 => handle ps_b15i0_0 os_b15i0_0 conv_b15i0_0 (Bk_b15i0_0 fu) fu s k | _ => none, inlL [(49, evCode E (pc_b15 fu) msk_b15i0i0 (lp_b15i0i0 fu) 0 body_b15i0i0)]⟩
noncomputable def lp_b15 (fu : Nat) : Lp RT den (Ye2) := ⟨fun b s k => none, inlL [(33, evCode E (pc_b15 fu) msk_b15i0 (lp_b15i0 fu) 0 body_b15i0)]⟩
def pso_b15 : List (Pat RT) := [.agg [(.int .i64), (.int .i64), (.int .i64), (.int .i64), (.int .i64), (.os 0), (.int .i64), (.int .i64), (.os 1), (.os 2), (.os 3), (.os 4)]]
def oso_b15 : List (OP RT) := [.row false .impl_Entry, .row false .i64, .row false .i64, .row false .i64, .deep false .impl_Mail]
def conv_b15 (r : Raw den pso_b15 oso_b15) : Ye2 := (r.1.1.1, r.1.1.2.1, r.1.1.2.2.1, r.1.1.2.2.2.1, r.1.1.2.2.2.2.1, (e5 r.1.1).1, (e5 r.1.1).2.1, (e5 r.1.1).2.2.1, (e5 r.1.1).2.2.2.1, (e5 r.1.1).2.2.2.2.1, (e10 r.1.1).1, (e10 r.1.1).2.1, r.2.1.1, r.2.1.2, r.2.2.1.1, r.2.2.1.2, r.2.2.2.1.1, r.2.2.2.1.2, r.2.2.2.2.1.1, r.2.2.2.2.1.2, (e5 r).1.1, (e5 r).1.2.2)
def enc_b15 (y : Ye2) : D RT den × List (Ob RT den) := ((.agg [(.int .i64 y.1), (.int .i64 y.2.1), (.int .i64 y.2.2.1), (.int .i64 y.2.2.2.1), (.int .i64 y.2.2.2.2.1), (.os 0 y.2.2.2.2.2.1), (.int .i64 y.2.2.2.2.2.2.1), (.int .i64 y.2.2.2.2.2.2.2.1), (.os 1 y.2.2.2.2.2.2.2.2.1), (.os 2 y.2.2.2.2.2.2.2.2.2.1), (.os 3 y.2.2.2.2.2.2.2.2.2.2.1), (.os 4 y.2.2.2.2.2.2.2.2.2.2.2.1)]), [(.row false .impl_Entry y.2.2.2.2.2.2.2.2.2.2.2.2.1 y.2.2.2.2.2.2.2.2.2.2.2.2.2.1), (.row false .i64 y.2.2.2.2.2.2.2.2.2.2.2.2.2.2.1 y.2.2.2.2.2.2.2.2.2.2.2.2.2.2.2.1), (.row false .i64 y.2.2.2.2.2.2.2.2.2.2.2.2.2.2.2.2.1 y.2.2.2.2.2.2.2.2.2.2.2.2.2.2.2.2.2.1), (.row false .i64 y.2.2.2.2.2.2.2.2.2.2.2.2.2.2.2.2.2.2.1 y.2.2.2.2.2.2.2.2.2.2.2.2.2.2.2.2.2.2.2.1), (.deep false .impl_Mail y.2.2.2.2.2.2.2.2.2.2.2.2.2.2.2.2.2.2.2.2.1 y.2.2.2.2.2.2.2.2.2.2.2.2.2.2.2.2.2.2.2.2.1 y.2.2.2.2.2.2.2.2.2.2.2.2.2.2.2.2.2.2.2.2.2)])
def chk_b15 (r : Raw den pso_b15 oso_b15) : Bool := (decide (r.2.2.2.2.2.1.2.1 = r.2.2.2.2.2.1.1) && true)
def raw_b15 (r : Raw den pso_b15 oso_b15) : St RT den := ⟨[(.agg [(.int .i64 r.1.1.1), (.int .i64 r.1.1.2.1), (.int .i64 r.1.1.2.2.1), (.int .i64 r.1.1.2.2.2.1), (.int .i64 r.1.1.2.2.2.2.1), (.os 0 r.1.1.2.2.2.2.2.1), (.int .i64 r.1.1.2.2.2.2.2.2.1), (.int .i64 r.1.1.2.2.2.2.2.2.2.1), (.os 1 r.1.1.2.2.2.2.2.2.2.2.1), (.os 2 r.1.1.2.2.2.2.2.2.2.2.2.1), (.os 3 r.1.1.2.2.2.2.2.2.2.2.2.2.1), (.os 4 r.1.1.2.2.2.2.2.2.2.2.2.2.2.1)])], [(.row false .impl_Entry r.2.1.1 r.2.1.2), (.row false .i64 r.2.2.1.1 r.2.2.1.2), (.row false .i64 r.2.2.2.1.1 r.2.2.2.1.2), (.row false .i64 r.2.2.2.2.1.1 r.2.2.2.2.1.2), (.deep false .impl_Mail r.2.2.2.2.2.1.1 r.2.2.2.2.2.1.2.1 r.2.2.2.2.2.1.2.2)]⟩
theorem chkd_b15 (r : Raw den pso_b15 oso_b15) (h : chk_b15 r = true) : raw_b15 r = ⟨[(enc_b15 (conv_b15 r)).1], (enc_b15 (conv_b15 r)).2⟩ := by
  simp only [chk_b15, Bool.and_eq_true, decide_eq_true_eq, and_true] at h
  simp only [raw_b15, enc_b15, conv_b15, h, e5, e10, e20, e40]
def out_b15 (d : D RT den) (os : List (Ob RT den)) : Option (Ye2) := (unSt pso_b15 oso_b15 ⟨[d], os⟩).bind fun v => bif chk_b15 v.1 then some (conv_b15 v.1) else none
theorem out_b15_enc (d : D RT den) (os : List (Ob RT den)) (y : Ye2) (h : out_b15 d os = some y) : d = (enc_b15 y).1 ∧ os = (enc_b15 y).2 :=
  outU (conv := conv_b15) (enc := enc_b15) (chk := chk_b15) (fun raw h => Eq.trans (by kernel_rfl) (chkd_b15 raw h)) h
theorem ev_b15 (fu : Nat) (n_0 : S_impl_Node) : evFunU E (pc_b15 fu) msk_b15 (lp_b15 fu) out_b15 16 [(.agg [(.int .i64 n_0.Id), (.int .i64 n_0.Peers), (.int .i64 n_0.Term), (.int .i64 n_0.Voted), (.rs n_0.Log.z .impl_Entry n_0.Log.n n_0.Log.f), (.int .i64 n_0.Role), (.int .i64 n_0.Commit), (.rs n_0.Votes.z .i64 n_0.Votes.n n_0.Votes.f), (.rs n_0.Next.z .i64 n_0.Next.n n_0.Next.f), (.rs n_0.Match.z .i64 n_0.Match.n n_0.Match.f)])] [] = F_impl_TimeoutNode_U fu n_0 := by kernel_rfl
noncomputable def body_b15 : Code := Try.f16.body.getD .skip
theorem lpok_b15i0i0 (fu : Nat) : LpOk E (pc_b15 fu) 0 msk_b15i0i0 (lp_b15i0i0 fu) (loops 0 body_b15i0i0) := lp_nil (loop_nil (by kernel_rfl)) (by kernel_rfl)
noncomputable def lc_b15i0_0 : Code := ((loops 0 body_b15i0).getD 0 (0, .skip)).2
theorem round_b15i0_0 (fu : Nat) (it : St RT den → Option (Ye2)) (k : Ex → St RT den → Option (Ye2)) c w : evCode E (pc_b15 fu) msk_b15i0 (lp_b15i0 fu) 0 lc_b15i0_0 (back_b15i0_0 c w) (after (msk_b15i0 0) (msk_b15i0 100000) 10 it k) = Bk_b15i0_0 fu c k w (fun w => it (back_b15i0_0 c w)) := by kernel_rfl
theorem lpok_b15i0_0 (fu : Nat) : ∀ s k r, (lp_b15i0 fu).lp 0 s k = some r → ∃ fuel, iter (msk_b15i0 0) (msk_b15i0 100000) s.objs.length (evCode E (pc_b15 fu) msk_b15i0 (lp_b15i0 fu) 0 lc_b15i0_0) fuel s k = some r :=
  handle_ok (ps := ps_b15i0_0) (os := os_b15i0_0) (conv := conv_b15i0_0) (B := Bk_b15i0_0 fu) (fu := fu) back_b15i0_0 (fun raw => by kernel_rfl) 10 (fun c w => by kernel_rfl) (round_b15i0_0 fu)
theorem lpok_b15i0 (fu : Nat) : LpOk E (pc_b15 fu) 1 msk_b15i0 (lp_b15i0 fu) (loops 0 body_b15i0) := lp_all (loop_all 1 (by kernel_rfl) fun i hi => match i, hi with
  | 0, _ => by
    have h : (loops 0 body_b15i0).getD 0 (0, .skip) = (0, lc_b15i0_0) := by kernel_rfl
    rw [h]; exact lpok_b15i0_0 fu
  | i + 1, hi => absurd hi (by omega)) (site_cons 49 Try.f49 (by kernel_rfl) (by kernel_rfl) (by kernel_rfl) (by kernel_rfl) ((lpok_b15i0i0 fu).mono (Nat.le_of_ble_eq_true (by kernel_rfl))) site_nil) (by kernel_rfl)
theorem lpok_b15 (fu : Nat) : LpOk E (pc_b15 fu) 2 msk_b15 (lp_b15 fu) (loops 0 body_b15) := lp_all (loop_nil (by kernel_rfl)) (site_cons 33 Try.f33 (by kernel_rfl) (by kernel_rfl) (by kernel_rfl) (by kernel_rfl) ((lpok_b15i0 fu).mono (Nat.le_of_ble_eq_true (by kernel_rfl))) site_nil) (by kernel_rfl)
def S_b15 (fu : Nat) (xs : List (D RT den)) (ins : List (Ob RT den)) : Option (OutX RT den) := match xs, ins with | [.agg [.int .i64 a0_1, .int .i64 a0_2, .int .i64 a0_3, .int .i64 a0_4, .rs za0_5 .impl_Entry na0_5 fa0_5, .int .i64 a0_6, .int .i64 a0_7, .rs za0_8 .i64 na0_8 fa0_8, .rs za0_9 .i64 na0_9 fa0_9, .rs za0_10 .i64 na0_10 fa0_10]], [] => some ⟨Ye2, F_impl_TimeoutNode_U fu (⟨a0_1, a0_2, a0_3, a0_4, (⟨za0_5, na0_5, fa0_5⟩ : (Sl S_impl_Entry)), a0_6, a0_7, (⟨za0_8, na0_8, fa0_8⟩ : (Sl Int)), (⟨za0_9, na0_9, fa0_9⟩ : (Sl Int)), (⟨za0_10, na0_10, fa0_10⟩ : (Sl Int))⟩ : S_impl_Node), enc_b15⟩ | _, _ => none
theorem hpc_b15 (fu : Nat) : ∀ f xs o, pcf_b15 fu f xs = some o → ∀ y, o.x = some y → Good E Try.prog f xs (o.g y) := by
  intro f xs o h
  unfold pcf_b15 at h
  split at h
  · exact good_b14 fu xs o h
  · exact good_b6 fu xs o h
  · exact good_a32 fu xs o h
  · exact good_a28 fu xs o h
  · cases h
theorem hpx_b15 (fu : Nat) : ∀ f xs ins o, pcx_b15 fu f xs ins = some o → ∀ y, o.x = some y → GoodXD E Try.prog (pcd_b15 f) f xs ins (o.g y).1 (o.g y).2 := by
  intro f xs ins o h
  unfold pcx_b15 at h
  split at h
  · exact good_a27 fu xs ins o h
  · exact good_a34 fu xs ins o h
  · cases h
theorem goodv_b15 (fu : Nat) (n_0 : S_impl_Node) (y : Ye2) (hy : F_impl_TimeoutNode_U fu n_0 = some y) : GoodD E Try.prog 16 [(.agg [(.int .i64 n_0.Id), (.int .i64 n_0.Peers), (.int .i64 n_0.Term), (.int .i64 n_0.Voted), (.rs n_0.Log.z .impl_Entry n_0.Log.n n_0.Log.f), (.int .i64 n_0.Role), (.int .i64 n_0.Commit), (.rs n_0.Votes.z .i64 n_0.Votes.n n_0.Votes.f), (.rs n_0.Next.z .i64 n_0.Next.n n_0.Next.f), (.rs n_0.Match.z .i64 n_0.Match.n n_0.Match.f)])] [] (enc_b15 y).1 (enc_b15 y).2 :=
  funU_good E_ok (pc_good (pc := pc_b15 fu) (hpc_b15 fu) (hpx_b15 fu)) (fn := Try.f16) (c := body_b15) (out := out_b15) (y := y) (by kernel_rfl) (by kernel_rfl) (by kernel_rfl) (lpok_b15 fu) (by kernel_rfl) (Nat.le_of_ble_eq_true (by kernel_rfl)) (Fulls.get 0 (And.intro (Nat.le_refl _) trivial)) (fun d os hd => out_b15_enc d os _ hd) ((ev_b15 fu n_0).trans hy)
theorem good_b15 (fu : Nat) : ∀ xs ins o, S_b15 fu xs ins = some o → ∀ y, o.x = some y → GoodD E Try.prog 16 xs ins (o.g y).1 (o.g y).2 := by
  intro xs ins o h y hy
  unfold S_b15 at h
  split at h
  · rename_i a0_1 a0_2 a0_3 a0_4 za0_5 na0_5 fa0_5 a0_6 a0_7 za0_8 na0_8 fa0_8 za0_9 na0_9 fa0_9 za0_10 na0_10 fa0_10
    cases h
    exact goodv_b15 fu (⟨a0_1, a0_2, a0_3, a0_4, (⟨za0_5, na0_5, fa0_5⟩ : (Sl S_impl_Entry)), a0_6, a0_7, (⟨za0_8, na0_8, fa0_8⟩ : (Sl Int)), (⟨za0_9, na0_9, fa0_9⟩ : (Sl Int)), (⟨za0_10, na0_10, fa0_10⟩ : (Sl Int))⟩ : S_impl_Node) y hy
  · cases h
end Go.Proofs.Ytjdgfkmiaikegaa.Pd
