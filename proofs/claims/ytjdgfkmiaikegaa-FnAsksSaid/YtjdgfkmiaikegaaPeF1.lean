/- The functions' evaluated forms, each a proved summary. Conditions: none. -/
import Derived.Test.YtjdgfkmiaikegaaPeF0
namespace Go.Proofs.Ytjdgfkmiaikegaa.Pe
open Go Go.RowKit Go.Proofs Vm
set_option linter.unusedVariables false
set_option linter.unusedSimpArgs false
set_option maxRecDepth 100000
abbrev Yb0 : Type := Int × Nat × Nat × Nat × (Nat → S_impl_Mail)
abbrev Yb1 : Type := (Sl Int) × Int × Int × Int × Int × Int × (Sl S_impl_Entry) × Int × Int × (Sl Int) × (Sl Int) × (Sl Int) × Int
abbrev Yb2 : Type := Int × Int × Int × Int × Int × Nat × Int × Int × Nat × Nat × Nat × Nat × Nat × (Nat → S_impl_Entry) × Nat × (Nat → Int) × Nat × (Nat → Int) × Nat × (Nat → Int) × Nat × (Nat → S_impl_Mail)
abbrev Yb3 : Type := Int × Int × Int × Int × (Sl S_impl_Entry) × Int × Int × (Sl Int) × (Sl Int) × (Sl Int) × Int × Int × Int × Int × Int × (Sl S_impl_Entry) × Int × Int × (Sl Int) × (Sl Int) × (Sl Int) × Int × Int × Int × Int × (Sl S_impl_Entry) × Int × Int × (Sl Int) × (Sl Int) × (Sl Int) × Int × Int × Int × Int × Int × Int × Int × Int × Int × Int × Int × Nat × Int × Int × Nat × Nat × Nat × Nat × (Nat → S_impl_Entry) × Nat × (Nat → Int) × Nat × (Nat → Int) × Nat × (Nat → Int) × Nat × (Nat → Int)
def F_impl_LogFault_B0 {ρ : Type} (fu : Nat) (log0_0 t9_1 : (Sl S_impl_Entry)) (t10_2 : Int) (k0 : Int → Int → Int → Int → Int → Int → Int → Int → Int → Int → Option ρ) (k1 : Int → Int → Int → Int → Int → Int → Int → Int → Int → Option ρ) (k2 : Option ρ) (t11_3 : Int) (go : Int → Option ρ) : Option ρ :=
 (bif (decide (t11_3 < t10_2)) then ((bif (decide (0 ≤ t11_3) && decide ((Int.toNat t11_3) < t9_1.n)) then some () else none : Option Unit).bind fun _ => ((F_impl_EntryFault fu (t9_1.f (Int.toNat t11_3))).bind fun y92 =>
  (bif (y92 != 0) then (k0 y92 (t9_1.f (Int.toNat t11_3)).Term (t9_1.f (Int.toNat t11_3)).Client (t9_1.f (Int.toNat t11_3)).Seq (t9_1.f (Int.toNat t11_3)).Cmd.Kind (t9_1.f (Int.toNat t11_3)).Cmd.Expect (t9_1.f (Int.toNat t11_3)).Cmd.Name (t9_1.f (Int.toNat t11_3)).Cmd.Addr (t9_1.f (Int.toNat t11_3)).Cmd.Number (t9_1.f (Int.toNat t11_3)).Cmd.Proto) else
  (((bif (decide (t11_3 > 0)) then ((bif (decide (0 ≤ (IntKind.wrap .i64 (t11_3 - 1))) && decide ((Int.toNat (IntKind.wrap .i64 (t11_3 - 1))) < log0_0.n)) then some () else none : Option Unit).bind fun _ =>
  (some (decide ((t9_1.f (Int.toNat t11_3)).Term < (log0_0.f (Int.toNat (IntKind.wrap .i64 (t11_3 - 1)))).Term)))) else (some false)) : Option Bool).bind fun m93 => (bif m93 then
  (k1 (t9_1.f (Int.toNat t11_3)).Term (t9_1.f (Int.toNat t11_3)).Client (t9_1.f (Int.toNat t11_3)).Seq (t9_1.f (Int.toNat t11_3)).Cmd.Kind (t9_1.f (Int.toNat t11_3)).Cmd.Expect (t9_1.f (Int.toNat t11_3)).Cmd.Name (t9_1.f (Int.toNat t11_3)).Cmd.Addr (t9_1.f (Int.toNat t11_3)).Cmd.Number (t9_1.f (Int.toNat t11_3)).Cmd.Proto) else
  (go (IntKind.wrap .i64 (t11_3 + 1)))))))) else k2)
def F_impl_LogFault (fu : Nat) (log_0 : (Sl S_impl_Entry)) : Option (Int) :=
 (bif (decide (((log_0.n : Nat) : Int) > 40)) then (some 2) else (L (fun w0 go0 => F_impl_LogFault_B0 fu log_0 log_0 ((log_0.n : Nat) : Int) (fun z94 z95 z96 z97 z98 z99 z100 z101 z102 z103 =>
  (some z94)) (fun z104 z105 z106 z107 z108 z109 z110 z111 z112 => (some 1)) (some 0) w0 go0) fu (0 : Int)))
def pcf_a20 (fu f : Nat) (xs : List (D RT den)) : Option (Out RT den) := match f with | 65 => S_a19 fu xs | _ => none
def pc_a20 (fu : Nat) : Pc RT den := ⟨pcf_a20 fu, fun _ => false, fun _ => false, pcd0, pcd0, pcx0⟩
def msk_a20 (b : Nat) : List Nat := match b with | 0 => (rg 1 8 (rg 12 23 [])) | 100000 => (0 :: 1 :: (rg 3 32 [])) | 200009 => [33] | _ => []
def ps_a20_0 : List (Pat RT) := (.flat (.rs .impl_Entry) :: (fq 8 (.flat (.rs .impl_Entry) :: .flat (.int .i64) :: .flat (.int .i64) :: (fq 23 []))))
def os_a20_0 : List (OP RT) := []
def conv_a20_0 (r : Raw den ps_a20_0 os_a20_0) : ((Sl S_impl_Entry) × (Sl S_impl_Entry) × Int) × (Int) := ((r.1.1, (e5 r.1).2.2.2.2.1, (e10 r.1).1), (e10 r.1).2.1)
def back_a20_0 (c : (Sl S_impl_Entry) × (Sl S_impl_Entry) × Int) (w : Int) : St RT den := ⟨((.rs c.1.z .impl_Entry c.1.n c.1.f) :: (qs 8 ((.rs c.2.1.z .impl_Entry c.2.1.n c.2.1.f) :: (ii c.2.2) :: (ii w) :: (qs 23 [])))), []⟩
def Bk_a20_0 {ρ : Type} (fu : Nat) (c : (Sl S_impl_Entry) × (Sl S_impl_Entry) × Int) (k : Ex → St RT den → Option ρ) (w : Int) (go : (Int) → Option ρ) : Option ρ := F_impl_LogFault_B0 fu c.1 c.2.1 c.2.2 (fun a0 a1 a2 a3 a4 a5 a6 a7 a8 a9 => k .ret ⟨(.q :: .q :: (ii a0) :: (qs 32 [])), [(.box false [(ii a1), (ii a2), (ii a3), (ii a4), (ii a5), (ii a6), (ii a7), (ii a8), (ii a9)])]⟩) (fun a0 a1 a2 a3 a4 a5 a6 a7 a8 => k .ret ⟨(.q :: .q :: (ii 1) :: (qs 32 [])), [(.box false [(ii a0), (ii a1), (ii a2), (ii a3), (ii a4), (ii a5), (ii a6), (ii a7), (ii a8)])]⟩) (k (.exit 0) ⟨(qs 35 []), []⟩) w go
def lp_a20 (fu : Nat) : Lp RT den (Int) := ⟨fun b s k => match b with | 0 => handle ps_a20_0 os_a20_0 conv_a20_0 (Bk_a20_0 fu) fu s k | _ => none, inl0⟩
theorem ev_a20 (fu : Nat) (log_0 : (Sl S_impl_Entry)) : evFun E (pc_a20 fu) msk_a20 (lp_a20 fu) out_i64 60 [(.rs log_0.z .impl_Entry log_0.n log_0.f)] = F_impl_LogFault fu log_0 := by kernel_rfl
noncomputable def body_a20 : Code := Try.f60.body.getD .skip
noncomputable def lc_a20_0 : Code := ((loops 0 body_a20).getD 0 (0, .skip)).2
theorem round_a20_0 (fu : Nat) : RoundOk E (pc_a20 fu) msk_a20 (lp_a20 fu) 0 lc_a20_0 back_a20_0 0 100000 0 (Bk_a20_0 fu) := fun it k c w => by kernel_rfl
theorem lpok_a20_0 (fu : Nat) : LpAt E (pc_a20 fu) msk_a20 (lp_a20 fu) 0 0 100000 0 lc_a20_0 :=
 handle_ok (ps := ps_a20_0) (os := os_a20_0) (conv := conv_a20_0) (B := Bk_a20_0 fu) (fu := fu) back_a20_0 (fun raw => by kernel_rfl) 0 (fun c w => by kernel_rfl) (round_a20_0 fu)
theorem lpok_a20 (fu : Nat) : LpOk E (pc_a20 fu) 0 msk_a20 (lp_a20 fu) (loops 0 body_a20) := lp_nil (loop_all 1 (by kernel_rfl) fun i hi => match i, hi with
 | 0, _ => by
  have h : (loops 0 body_a20).getD 0 (0, .skip) = (0, lc_a20_0) := by kernel_rfl
  rw [h]; exact lpok_a20_0 fu
 | i + 1, hi => absurd hi (by omega)) (by kernel_rfl)
def S_a20 (fu : Nat) (xs : List (D RT den)) : Option (Out RT den) := match xs with | [.rs za0_0 .impl_Entry na0_0 fa0_0] => some ⟨Int, F_impl_LogFault fu (⟨za0_0, na0_0, fa0_0⟩ : (Sl S_impl_Entry)), enc_i64, fun _ => true⟩ | _ => none
theorem hpc_a20 (fu : Nat) : HpcOk E Try.prog (pcf_a20 fu) := by
 intro f xs o h
 unfold pcf_a20 at h
 split at h
 ·exact good_a19 fu xs o h
 ·cases h
theorem goodv_a20 (fu : Nat) (log_0 : (Sl S_impl_Entry)) (y : Int) (hy : F_impl_LogFault fu log_0 = some y) : Good E Try.prog 60 [(.rs log_0.z .impl_Entry log_0.n log_0.f)] (enc_i64 y) :=
 fun_good E_ok (pc_good (pc := pc_a20 fu) (hpc_a20 fu) hpx0) (fn := Try.f60) (by kernel_rfl) (by kernel_rfl) (by kernel_rfl) (lpok_a20 fu) (fun d hd => out_i64_enc d _ hd) ((ev_a20 fu log_0).trans hy)
theorem good_a20 (fu : Nat) : GoodS E Try.prog 60 (S_a20 fu) := by
 intro xs o h y hy
 unfold S_a20 at h
 split at h
 ·rename_i za0_0 na0_0 fa0_0
  cases h
  exact goodv_a20 fu (⟨za0_0, na0_0, fa0_0⟩ : (Sl S_impl_Entry)) y hy
 ·cases h
def F_impl_last (fu : Nat) (log_0 : (Sl S_impl_Entry)) : Option (S_impl_Entry) :=
 (bif (((log_0.n : Nat) : Int) == 0) then (some (⟨0, 0, 0, (⟨0, 0, 0, 0, 0, 0⟩ : S_impl_Cmd)⟩ : S_impl_Entry)) else ((bif (decide (0 ≤ (IntKind.wrap .i64 (((log_0.n : Nat) : Int) - 1))) &&
  decide ((Int.toNat (IntKind.wrap .i64 (((log_0.n : Nat) : Int) - 1))) < log_0.n)) then some () else none : Option Unit).bind fun _ => (some (log_0.f (Int.toNat (IntKind.wrap .i64 (((log_0.n : Nat) : Int) - 1)))))))
def pc_a21 (fu : Nat) : Pc RT den := ⟨pcf0, fun _ => false, fun _ => false, pcd0, pcd0, pcx0⟩
def msk_a21 (b : Nat) : List Nat := []
def lp_a21 (fu : Nat) : Lp RT den (S_impl_Entry) := ⟨fun b s k => none, inl0⟩
theorem ev_a21 (fu : Nat) (log_0 : (Sl S_impl_Entry)) : evFun E (pc_a21 fu) msk_a21 (lp_a21 fu) out_impl_Entry 35 [(.rs log_0.z .impl_Entry log_0.n log_0.f)] = F_impl_last fu log_0 := by kernel_rfl
noncomputable def body_a21 : Code := Try.f35.body.getD .skip
theorem lpok_a21 (fu : Nat) : LpOk E (pc_a21 fu) 0 msk_a21 (lp_a21 fu) (loops 0 body_a21) := lp_nil (loop_nil (by kernel_rfl)) (by kernel_rfl)
def S_a21 (fu : Nat) (xs : List (D RT den)) : Option (Out RT den) := match xs with | [.rs za0_0 .impl_Entry na0_0 fa0_0] => some ⟨S_impl_Entry, F_impl_last fu (⟨za0_0, na0_0, fa0_0⟩ : (Sl S_impl_Entry)), enc_impl_Entry, fun _ => true⟩ | _ => none
theorem goodv_a21 (fu : Nat) (log_0 : (Sl S_impl_Entry)) (y : S_impl_Entry) (hy : F_impl_last fu log_0 = some y) : Good E Try.prog 35 [(.rs log_0.z .impl_Entry log_0.n log_0.f)] (enc_impl_Entry y) :=
 fun_good E_ok (pc_good (pc := pc_a21 fu) hpc0 hpx0) (fn := Try.f35) (by kernel_rfl) (by kernel_rfl) (by kernel_rfl) (lpok_a21 fu) (fun d hd => out_impl_Entry_enc d _ hd) ((ev_a21 fu log_0).trans hy)
theorem good_a21 (fu : Nat) : GoodS E Try.prog 35 (S_a21 fu) := by
 intro xs o h y hy
 unfold S_a21 at h
 split at h
 ·rename_i za0_0 na0_0 fa0_0
  cases h
  exact goodv_a21 fu (⟨za0_0, na0_0, fa0_0⟩ : (Sl S_impl_Entry)) y hy
 ·cases h
def F_impl_size_int64 (fu : Nat) (list_0 : (Sl Int)) : Option (Int) :=
 (some ((list_0.n : Nat) : Int))
def pc_a22 (fu : Nat) : Pc RT den := ⟨pcf0, fun _ => false, fun _ => false, pcd0, pcd0, pcx0⟩
def msk_a22 (b : Nat) : List Nat := []
def lp_a22 (fu : Nat) : Lp RT den (Int) := ⟨fun b s k => none, inl0⟩
theorem ev_a22 (fu : Nat) (list_0 : (Sl Int)) : evFun E (pc_a22 fu) msk_a22 (lp_a22 fu) out_i64 61 [(.rs list_0.z .i64 list_0.n list_0.f)] = F_impl_size_int64 fu list_0 := by kernel_rfl
noncomputable def body_a22 : Code := Try.f61.body.getD .skip
theorem lpok_a22 (fu : Nat) : LpOk E (pc_a22 fu) 0 msk_a22 (lp_a22 fu) (loops 0 body_a22) := lp_nil (loop_nil (by kernel_rfl)) (by kernel_rfl)
def S_a22 (fu : Nat) (xs : List (D RT den)) : Option (Out RT den) := match xs with | [.rs za0_0 .i64 na0_0 fa0_0] => some ⟨Int, F_impl_size_int64 fu (⟨za0_0, na0_0, fa0_0⟩ : (Sl Int)), enc_i64, fun _ => true⟩ | _ => none
theorem goodv_a22 (fu : Nat) (list_0 : (Sl Int)) (y : Int) (hy : F_impl_size_int64 fu list_0 = some y) : Good E Try.prog 61 [(.rs list_0.z .i64 list_0.n list_0.f)] (enc_i64 y) :=
 fun_good E_ok (pc_good (pc := pc_a22 fu) hpc0 hpx0) (fn := Try.f61) (by kernel_rfl) (by kernel_rfl) (by kernel_rfl) (lpok_a22 fu) (fun d hd => out_i64_enc d _ hd) ((ev_a22 fu list_0).trans hy)
theorem good_a22 (fu : Nat) : GoodS E Try.prog 61 (S_a22 fu) := by
 intro xs o h y hy
 unfold S_a22 at h
 split at h
 ·rename_i za0_0 na0_0 fa0_0
  cases h
  exact goodv_a22 fu (⟨za0_0, na0_0, fa0_0⟩ : (Sl Int)) y hy
 ·cases h
def F_impl_NodeFault_c1 (fu : Nat) (k_0 x_1_1 : Int) : Option (Bool) :=
 ((F_impl_in fu k_0 1 (IntKind.wrap .i64 (x_1_1 + 1))).bind fun y152 => (some (!y152)))
def pcf_a23 (fu f : Nat) (xs : List (D RT den)) : Option (Out RT den) := match f with | 58 => S_a10 fu xs | _ => none
def pc_a23 (fu : Nat) : Pc RT den := ⟨pcf_a23 fu, fun _ => false, fun _ => false, pcd0, pcd0, pcx0⟩
def msk_a23 (b : Nat) : List Nat := []
def lp_a23 (fu : Nat) : Lp RT den (Bool) := ⟨fun b s k => none, inl0⟩
theorem ev_a23 (fu : Nat) (k_0 x_1_1 : Int) : evFun E (pc_a23 fu) msk_a23 (lp_a23 fu) out_bo 63 [(ii k_0), (.rptr [(ii x_1_1)])] = F_impl_NodeFault_c1 fu k_0 x_1_1 := by kernel_rfl
noncomputable def body_a23 : Code := Try.f63.body.getD .skip
theorem lpok_a23 (fu : Nat) : LpOk E (pc_a23 fu) 0 msk_a23 (lp_a23 fu) (loops 0 body_a23) := lp_nil (loop_nil (by kernel_rfl)) (by kernel_rfl)
def S_a23 (fu : Nat) (xs : List (D RT den)) : Option (Out RT den) := match xs with | [.int .i64 a0_0, .rptr [.int .i64 a1_0]] => some ⟨Bool, F_impl_NodeFault_c1 fu a0_0 a1_0, enc_bo, fun _ => true⟩ | _ => none
theorem hpc_a23 (fu : Nat) : HpcOk E Try.prog (pcf_a23 fu) := by
 intro f xs o h
 unfold pcf_a23 at h
 split at h
 ·exact good_a10 fu xs o h
 ·cases h
theorem goodv_a23 (fu : Nat) (k_0 x_1_1 : Int) (y : Bool) (hy : F_impl_NodeFault_c1 fu k_0 x_1_1 = some y) : Good E Try.prog 63 [(ii k_0), (.rptr [(ii x_1_1)])] (enc_bo y) :=
 fun_good E_ok (pc_good (pc := pc_a23 fu) (hpc_a23 fu) hpx0) (fn := Try.f63) (by kernel_rfl) (by kernel_rfl) (by kernel_rfl) (lpok_a23 fu) (fun d hd => out_bo_enc d _ hd) ((ev_a23 fu k_0 x_1_1).trans hy)
theorem good_a23 (fu : Nat) : GoodS E Try.prog 63 (S_a23 fu) := by
 intro xs o h y hy
 unfold S_a23 at h
 split at h
 ·rename_i a0_0 a1_0
  cases h
  exact goodv_a23 fu a0_0 a1_0 y hy
 ·cases h
def F_slices_IndexFunc_int64_int64_w_impl_NodeFault_c1_B0 {ρ : Type} (fu : Nat) (s0_0 : (Sl Int)) (f1_1 t7_2 : Int) (k0 : Int → Option ρ) (k1 : Option ρ) (t8_3 : Int) (go : Int → Option ρ) : Option ρ :=
 (bif (decide (t8_3 < t7_2)) then ((bif (decide (0 ≤ t8_3) && decide ((Int.toNat t8_3) < s0_0.n)) then some () else none : Option Unit).bind fun _ => ((F_impl_NodeFault_c1 fu (s0_0.f (Int.toNat t8_3)) f1_1).bind fun y150 =>
  (bif y150 then (k0 t8_3) else (go (IntKind.wrap .i64 (t8_3 + 1)))))) else k1)
def F_slices_IndexFunc_int64_int64_w_impl_NodeFault_c1 (fu : Nat) (s_0 : (Sl Int)) (f_1_1 : Int) : Option (Int) :=
 (L (fun w0 go0 => F_slices_IndexFunc_int64_int64_w_impl_NodeFault_c1_B0 fu s_0 f_1_1 ((s_0.n : Nat) : Int) (fun z151 => (some z151)) (some (-1)) w0 go0) fu (0 : Int))
def pcf_a24 (fu f : Nat) (xs : List (D RT den)) : Option (Out RT den) := match f with | 63 => S_a23 fu xs | _ => none
def pc_a24 (fu : Nat) : Pc RT den := ⟨pcf_a24 fu, fun _ => false, fun _ => false, pcd0, pcd0, pcx0⟩
def msk_a24 (b : Nat) : List Nat := match b with | 0 => (rg 2 5 (rg 9 10 [])) | 100000 => (0 :: 1 :: 2 :: 3 :: (rg 5 14 [])) | _ => []
def ps_a24_0 : List (Pat RT) := (.flat (.rs .i64) :: .fn 63 [.rptr [(.int .i64)]] :: (fq 5 (.flat (.int .i64) :: .flat (.int .i64) :: (fq 10 []))))
def os_a24_0 : List (OP RT) := []
def conv_a24_0 (r : Raw den ps_a24_0 os_a24_0) : ((Sl Int) × Int × Int) × (Int) := ((r.1.1, r.1.2.1.1.1, (e5 r.1).2.2.1), (e5 r.1).2.2.2.1)
def back_a24_0 (c : (Sl Int) × Int × Int) (w : Int) : St RT den := ⟨((.rs c.1.z .i64 c.1.n c.1.f) :: (.fn 63 [(.rptr [(ii c.2.1)])]) :: (qs 5 ((ii c.2.2) :: (ii w) :: (qs 10 [])))), []⟩
def Bk_a24_0 {ρ : Type} (fu : Nat) (c : (Sl Int) × Int × Int) (k : Ex → St RT den → Option ρ) (w : Int) (go : (Int) → Option ρ) : Option ρ := F_slices_IndexFunc_int64_int64_w_impl_NodeFault_c1_B0 fu c.1 c.2.1 c.2.2 (fun a0 => k .ret ⟨(qs 4 ((ii a0) :: (qs 14 []))), []⟩) (k (.exit 0) ⟨(qs 19 []), []⟩) w go
def lp_a24 (fu : Nat) : Lp RT den (Int) := ⟨fun b s k => match b with | 0 => handle ps_a24_0 os_a24_0 conv_a24_0 (Bk_a24_0 fu) fu s k | _ => none, inl0⟩
theorem ev_a24 (fu : Nat) (s_0 : (Sl Int)) (f_1_1 : Int) : evFun E (pc_a24 fu) msk_a24 (lp_a24 fu) out_i64 87 [(.rs s_0.z .i64 s_0.n s_0.f), (.fn 63 [(.rptr [(ii f_1_1)])])] = F_slices_IndexFunc_int64_int64_w_impl_NodeFault_c1 fu s_0 f_1_1 := by kernel_rfl
noncomputable def body_a24 : Code := Try.f87.body.getD .skip
noncomputable def lc_a24_0 : Code := ((loops 0 body_a24).getD 0 (0, .skip)).2
theorem round_a24_0 (fu : Nat) : RoundOk E (pc_a24 fu) msk_a24 (lp_a24 fu) 0 lc_a24_0 back_a24_0 0 100000 0 (Bk_a24_0 fu) := fun it k c w => by kernel_rfl
theorem lpok_a24_0 (fu : Nat) : LpAt E (pc_a24 fu) msk_a24 (lp_a24 fu) 0 0 100000 0 lc_a24_0 :=
 handle_ok (ps := ps_a24_0) (os := os_a24_0) (conv := conv_a24_0) (B := Bk_a24_0 fu) (fu := fu) back_a24_0 (fun raw => by kernel_rfl) 0 (fun c w => by kernel_rfl) (round_a24_0 fu)
theorem lpok_a24 (fu : Nat) : LpOk E (pc_a24 fu) 0 msk_a24 (lp_a24 fu) (loops 0 body_a24) := lp_nil (loop_all 1 (by kernel_rfl) fun i hi => match i, hi with
 | 0, _ => by
  have h : (loops 0 body_a24).getD 0 (0, .skip) = (0, lc_a24_0) := by kernel_rfl
  rw [h]; exact lpok_a24_0 fu
 | i + 1, hi => absurd hi (by omega)) (by kernel_rfl)
def S_a24 (fu : Nat) (xs : List (D RT den)) : Option (Out RT den) := match xs with | [.rs za0_0 .i64 na0_0 fa0_0, .fn 63 [.rptr [.int .i64 a1_0]]] => some ⟨Int, F_slices_IndexFunc_int64_int64_w_impl_NodeFault_c1 fu (⟨za0_0, na0_0, fa0_0⟩ : (Sl Int)) a1_0, enc_i64, fun _ => true⟩ | _ => none
theorem hpc_a24 (fu : Nat) : HpcOk E Try.prog (pcf_a24 fu) := by
 intro f xs o h
 unfold pcf_a24 at h
 split at h
 ·exact good_a23 fu xs o h
 ·cases h
theorem goodv_a24 (fu : Nat) (s_0 : (Sl Int)) (f_1_1 y : Int) (hy : F_slices_IndexFunc_int64_int64_w_impl_NodeFault_c1 fu s_0 f_1_1 = some y) : Good E Try.prog 87 [(.rs s_0.z .i64 s_0.n s_0.f), (.fn 63 [(.rptr [(ii f_1_1)])])] (enc_i64 y) :=
 fun_good E_ok (pc_good (pc := pc_a24 fu) (hpc_a24 fu) hpx0) (fn := Try.f87) (by kernel_rfl) (by kernel_rfl) (by kernel_rfl) (lpok_a24 fu) (fun d hd => out_i64_enc d _ hd) ((ev_a24 fu s_0 f_1_1).trans hy)
theorem good_a24 (fu : Nat) : GoodS E Try.prog 87 (S_a24 fu) := by
 intro xs o h y hy
 unfold S_a24 at h
 split at h
 ·rename_i za0_0 na0_0 fa0_0 a1_0
  cases h
  exact goodv_a24 fu (⟨za0_0, na0_0, fa0_0⟩ : (Sl Int)) a1_0 y hy
 ·cases h
def F_slices_ContainsFunc_int64_int64_w_impl_NodeFault_c1 (fu : Nat) (s_0 : (Sl Int)) (f_1_1 : Int) : Option (Bool) :=
 ((F_slices_IndexFunc_int64_int64_w_impl_NodeFault_c1 fu s_0 f_1_1).bind fun y149 => (some (decide (y149 ≥ 0))))
def pcf_a25 (fu f : Nat) (xs : List (D RT den)) : Option (Out RT den) := match f with | 87 => S_a24 fu xs | _ => none
def pc_a25 (fu : Nat) : Pc RT den := ⟨pcf_a25 fu, fun _ => false, fun _ => false, pcd0, pcd0, pcx0⟩
def msk_a25 (b : Nat) : List Nat := []
def lp_a25 (fu : Nat) : Lp RT den (Bool) := ⟨fun b s k => none, inl0⟩
theorem ev_a25 (fu : Nat) (s_0 : (Sl Int)) (f_1_1 : Int) : evFun E (pc_a25 fu) msk_a25 (lp_a25 fu) out_bo 62 [(.rs s_0.z .i64 s_0.n s_0.f), (.fn 63 [(.rptr [(ii f_1_1)])])] = F_slices_ContainsFunc_int64_int64_w_impl_NodeFault_c1 fu s_0 f_1_1 := by kernel_rfl
noncomputable def body_a25 : Code := Try.f62.body.getD .skip
theorem lpok_a25 (fu : Nat) : LpOk E (pc_a25 fu) 0 msk_a25 (lp_a25 fu) (loops 0 body_a25) := lp_nil (loop_nil (by kernel_rfl)) (by kernel_rfl)
def S_a25 (fu : Nat) (xs : List (D RT den)) : Option (Out RT den) := match xs with | [.rs za0_0 .i64 na0_0 fa0_0, .fn 63 [.rptr [.int .i64 a1_0]]] => some ⟨Bool, F_slices_ContainsFunc_int64_int64_w_impl_NodeFault_c1 fu (⟨za0_0, na0_0, fa0_0⟩ : (Sl Int)) a1_0, enc_bo, fun _ => true⟩ | _ => none
theorem hpc_a25 (fu : Nat) : HpcOk E Try.prog (pcf_a25 fu) := by
 intro f xs o h
 unfold pcf_a25 at h
 split at h
 ·exact good_a24 fu xs o h
 ·cases h
theorem goodv_a25 (fu : Nat) (s_0 : (Sl Int)) (f_1_1 : Int) (y : Bool) (hy : F_slices_ContainsFunc_int64_int64_w_impl_NodeFault_c1 fu s_0 f_1_1 = some y) : Good E Try.prog 62 [(.rs s_0.z .i64 s_0.n s_0.f), (.fn 63 [(.rptr [(ii f_1_1)])])] (enc_bo y) :=
 fun_good E_ok (pc_good (pc := pc_a25 fu) (hpc_a25 fu) hpx0) (fn := Try.f62) (by kernel_rfl) (by kernel_rfl) (by kernel_rfl) (lpok_a25 fu) (fun d hd => out_bo_enc d _ hd) ((ev_a25 fu s_0 f_1_1).trans hy)
theorem good_a25 (fu : Nat) : GoodS E Try.prog 62 (S_a25 fu) := by
 intro xs o h y hy
 unfold S_a25 at h
 split at h
 ·rename_i za0_0 na0_0 fa0_0 a1_0
  cases h
  exact goodv_a25 fu (⟨za0_0, na0_0, fa0_0⟩ : (Sl Int)) a1_0 y hy
 ·cases h
def F_impl_NodeFault_c2 (fu : Nat) (k_0 x_1_1 : Int) : Option (Bool) :=
 ((F_impl_in fu k_0 0 x_1_1).bind fun y156 => (some (!y156)))
def pcf_a26 (fu f : Nat) (xs : List (D RT den)) : Option (Out RT den) := match f with | 58 => S_a10 fu xs | _ => none
def pc_a26 (fu : Nat) : Pc RT den := ⟨pcf_a26 fu, fun _ => false, fun _ => false, pcd0, pcd0, pcx0⟩
def msk_a26 (b : Nat) : List Nat := []
def lp_a26 (fu : Nat) : Lp RT den (Bool) := ⟨fun b s k => none, inl0⟩
theorem ev_a26 (fu : Nat) (k_0 x_1_1 : Int) : evFun E (pc_a26 fu) msk_a26 (lp_a26 fu) out_bo 64 [(ii k_0), (.rptr [(ii x_1_1)])] = F_impl_NodeFault_c2 fu k_0 x_1_1 := by kernel_rfl
noncomputable def body_a26 : Code := Try.f64.body.getD .skip
theorem lpok_a26 (fu : Nat) : LpOk E (pc_a26 fu) 0 msk_a26 (lp_a26 fu) (loops 0 body_a26) := lp_nil (loop_nil (by kernel_rfl)) (by kernel_rfl)
def S_a26 (fu : Nat) (xs : List (D RT den)) : Option (Out RT den) := match xs with | [.int .i64 a0_0, .rptr [.int .i64 a1_0]] => some ⟨Bool, F_impl_NodeFault_c2 fu a0_0 a1_0, enc_bo, fun _ => true⟩ | _ => none
theorem hpc_a26 (fu : Nat) : HpcOk E Try.prog (pcf_a26 fu) := by
 intro f xs o h
 unfold pcf_a26 at h
 split at h
 ·exact good_a10 fu xs o h
 ·cases h
theorem goodv_a26 (fu : Nat) (k_0 x_1_1 : Int) (y : Bool) (hy : F_impl_NodeFault_c2 fu k_0 x_1_1 = some y) : Good E Try.prog 64 [(ii k_0), (.rptr [(ii x_1_1)])] (enc_bo y) :=
 fun_good E_ok (pc_good (pc := pc_a26 fu) (hpc_a26 fu) hpx0) (fn := Try.f64) (by kernel_rfl) (by kernel_rfl) (by kernel_rfl) (lpok_a26 fu) (fun d hd => out_bo_enc d _ hd) ((ev_a26 fu k_0 x_1_1).trans hy)
theorem good_a26 (fu : Nat) : GoodS E Try.prog 64 (S_a26 fu) := by
 intro xs o h y hy
 unfold S_a26 at h
 split at h
 ·rename_i a0_0 a1_0
  cases h
  exact goodv_a26 fu a0_0 a1_0 y hy
 ·cases h
def F_slices_IndexFunc_int64_int64_w_impl_NodeFault_c2_B0 {ρ : Type} (fu : Nat) (s0_0 : (Sl Int)) (f1_1 t7_2 : Int) (k0 : Int → Option ρ) (k1 : Option ρ) (t8_3 : Int) (go : Int → Option ρ) : Option ρ :=
 (bif (decide (t8_3 < t7_2)) then ((bif (decide (0 ≤ t8_3) && decide ((Int.toNat t8_3) < s0_0.n)) then some () else none : Option Unit).bind fun _ => ((F_impl_NodeFault_c2 fu (s0_0.f (Int.toNat t8_3)) f1_1).bind fun y154 =>
  (bif y154 then (k0 t8_3) else (go (IntKind.wrap .i64 (t8_3 + 1)))))) else k1)
def F_slices_IndexFunc_int64_int64_w_impl_NodeFault_c2 (fu : Nat) (s_0 : (Sl Int)) (f_1_1 : Int) : Option (Int) :=
 (L (fun w0 go0 => F_slices_IndexFunc_int64_int64_w_impl_NodeFault_c2_B0 fu s_0 f_1_1 ((s_0.n : Nat) : Int) (fun z155 => (some z155)) (some (-1)) w0 go0) fu (0 : Int))
def pcf_a27 (fu f : Nat) (xs : List (D RT den)) : Option (Out RT den) := match f with | 64 => S_a26 fu xs | _ => none
def pc_a27 (fu : Nat) : Pc RT den := ⟨pcf_a27 fu, fun _ => false, fun _ => false, pcd0, pcd0, pcx0⟩
def msk_a27 (b : Nat) : List Nat := match b with | 0 => (rg 2 5 (rg 9 10 [])) | 100000 => (0 :: 1 :: 2 :: 3 :: (rg 5 14 [])) | _ => []
def ps_a27_0 : List (Pat RT) := (.flat (.rs .i64) :: .fn 64 [.rptr [(.int .i64)]] :: (fq 5 (.flat (.int .i64) :: .flat (.int .i64) :: (fq 10 []))))
def os_a27_0 : List (OP RT) := []
def conv_a27_0 (r : Raw den ps_a27_0 os_a27_0) : ((Sl Int) × Int × Int) × (Int) := ((r.1.1, r.1.2.1.1.1, (e5 r.1).2.2.1), (e5 r.1).2.2.2.1)
def back_a27_0 (c : (Sl Int) × Int × Int) (w : Int) : St RT den := ⟨((.rs c.1.z .i64 c.1.n c.1.f) :: (.fn 64 [(.rptr [(ii c.2.1)])]) :: (qs 5 ((ii c.2.2) :: (ii w) :: (qs 10 [])))), []⟩
def Bk_a27_0 {ρ : Type} (fu : Nat) (c : (Sl Int) × Int × Int) (k : Ex → St RT den → Option ρ) (w : Int) (go : (Int) → Option ρ) : Option ρ := F_slices_IndexFunc_int64_int64_w_impl_NodeFault_c2_B0 fu c.1 c.2.1 c.2.2 (fun a0 => k .ret ⟨(qs 4 ((ii a0) :: (qs 14 []))), []⟩) (k (.exit 0) ⟨(qs 19 []), []⟩) w go
def lp_a27 (fu : Nat) : Lp RT den (Int) := ⟨fun b s k => match b with | 0 => handle ps_a27_0 os_a27_0 conv_a27_0 (Bk_a27_0 fu) fu s k | _ => none, inl0⟩
theorem ev_a27 (fu : Nat) (s_0 : (Sl Int)) (f_1_1 : Int) : evFun E (pc_a27 fu) msk_a27 (lp_a27 fu) out_i64 87 [(.rs s_0.z .i64 s_0.n s_0.f), (.fn 64 [(.rptr [(ii f_1_1)])])] = F_slices_IndexFunc_int64_int64_w_impl_NodeFault_c2 fu s_0 f_1_1 := by kernel_rfl
noncomputable def body_a27 : Code := Try.f87.body.getD .skip
noncomputable def lc_a27_0 : Code := ((loops 0 body_a27).getD 0 (0, .skip)).2
theorem round_a27_0 (fu : Nat) : RoundOk E (pc_a27 fu) msk_a27 (lp_a27 fu) 0 lc_a27_0 back_a27_0 0 100000 0 (Bk_a27_0 fu) := fun it k c w => by kernel_rfl
theorem lpok_a27_0 (fu : Nat) : LpAt E (pc_a27 fu) msk_a27 (lp_a27 fu) 0 0 100000 0 lc_a27_0 :=
 handle_ok (ps := ps_a27_0) (os := os_a27_0) (conv := conv_a27_0) (B := Bk_a27_0 fu) (fu := fu) back_a27_0 (fun raw => by kernel_rfl) 0 (fun c w => by kernel_rfl) (round_a27_0 fu)
theorem lpok_a27 (fu : Nat) : LpOk E (pc_a27 fu) 0 msk_a27 (lp_a27 fu) (loops 0 body_a27) := lp_nil (loop_all 1 (by kernel_rfl) fun i hi => match i, hi with
 | 0, _ => by
  have h : (loops 0 body_a27).getD 0 (0, .skip) = (0, lc_a27_0) := by kernel_rfl
  rw [h]; exact lpok_a27_0 fu
 | i + 1, hi => absurd hi (by omega)) (by kernel_rfl)
def S_a27 (fu : Nat) (xs : List (D RT den)) : Option (Out RT den) := match xs with | [.rs za0_0 .i64 na0_0 fa0_0, .fn 64 [.rptr [.int .i64 a1_0]]] => some ⟨Int, F_slices_IndexFunc_int64_int64_w_impl_NodeFault_c2 fu (⟨za0_0, na0_0, fa0_0⟩ : (Sl Int)) a1_0, enc_i64, fun _ => true⟩ | _ => none
theorem hpc_a27 (fu : Nat) : HpcOk E Try.prog (pcf_a27 fu) := by
 intro f xs o h
 unfold pcf_a27 at h
 split at h
 ·exact good_a26 fu xs o h
 ·cases h
theorem goodv_a27 (fu : Nat) (s_0 : (Sl Int)) (f_1_1 y : Int) (hy : F_slices_IndexFunc_int64_int64_w_impl_NodeFault_c2 fu s_0 f_1_1 = some y) : Good E Try.prog 87 [(.rs s_0.z .i64 s_0.n s_0.f), (.fn 64 [(.rptr [(ii f_1_1)])])] (enc_i64 y) :=
 fun_good E_ok (pc_good (pc := pc_a27 fu) (hpc_a27 fu) hpx0) (fn := Try.f87) (by kernel_rfl) (by kernel_rfl) (by kernel_rfl) (lpok_a27 fu) (fun d hd => out_i64_enc d _ hd) ((ev_a27 fu s_0 f_1_1).trans hy)
theorem good_a27 (fu : Nat) : GoodS E Try.prog 87 (S_a27 fu) := by
 intro xs o h y hy
 unfold S_a27 at h
 split at h
 ·rename_i za0_0 na0_0 fa0_0 a1_0
  cases h
  exact goodv_a27 fu (⟨za0_0, na0_0, fa0_0⟩ : (Sl Int)) a1_0 y hy
 ·cases h
def F_slices_ContainsFunc_int64_int64_w_impl_NodeFault_c2 (fu : Nat) (s_0 : (Sl Int)) (f_1_1 : Int) : Option (Bool) :=
 ((F_slices_IndexFunc_int64_int64_w_impl_NodeFault_c2 fu s_0 f_1_1).bind fun y153 => (some (decide (y153 ≥ 0))))
def pcf_a28 (fu f : Nat) (xs : List (D RT den)) : Option (Out RT den) := match f with | 87 => S_a27 fu xs | _ => none
def pc_a28 (fu : Nat) : Pc RT den := ⟨pcf_a28 fu, fun _ => false, fun _ => false, pcd0, pcd0, pcx0⟩
def msk_a28 (b : Nat) : List Nat := []
def lp_a28 (fu : Nat) : Lp RT den (Bool) := ⟨fun b s k => none, inl0⟩
theorem ev_a28 (fu : Nat) (s_0 : (Sl Int)) (f_1_1 : Int) : evFun E (pc_a28 fu) msk_a28 (lp_a28 fu) out_bo 62 [(.rs s_0.z .i64 s_0.n s_0.f), (.fn 64 [(.rptr [(ii f_1_1)])])] = F_slices_ContainsFunc_int64_int64_w_impl_NodeFault_c2 fu s_0 f_1_1 := by kernel_rfl
noncomputable def body_a28 : Code := Try.f62.body.getD .skip
theorem lpok_a28 (fu : Nat) : LpOk E (pc_a28 fu) 0 msk_a28 (lp_a28 fu) (loops 0 body_a28) := lp_nil (loop_nil (by kernel_rfl)) (by kernel_rfl)
def S_a28 (fu : Nat) (xs : List (D RT den)) : Option (Out RT den) := match xs with | [.rs za0_0 .i64 na0_0 fa0_0, .fn 64 [.rptr [.int .i64 a1_0]]] => some ⟨Bool, F_slices_ContainsFunc_int64_int64_w_impl_NodeFault_c2 fu (⟨za0_0, na0_0, fa0_0⟩ : (Sl Int)) a1_0, enc_bo, fun _ => true⟩ | _ => none
theorem hpc_a28 (fu : Nat) : HpcOk E Try.prog (pcf_a28 fu) := by
 intro f xs o h
 unfold pcf_a28 at h
 split at h
 ·exact good_a27 fu xs o h
 ·cases h
theorem goodv_a28 (fu : Nat) (s_0 : (Sl Int)) (f_1_1 : Int) (y : Bool) (hy : F_slices_ContainsFunc_int64_int64_w_impl_NodeFault_c2 fu s_0 f_1_1 = some y) : Good E Try.prog 62 [(.rs s_0.z .i64 s_0.n s_0.f), (.fn 64 [(.rptr [(ii f_1_1)])])] (enc_bo y) :=
 fun_good E_ok (pc_good (pc := pc_a28 fu) (hpc_a28 fu) hpx0) (fn := Try.f62) (by kernel_rfl) (by kernel_rfl) (by kernel_rfl) (lpok_a28 fu) (fun d hd => out_bo_enc d _ hd) ((ev_a28 fu s_0 f_1_1).trans hy)
theorem good_a28 (fu : Nat) : GoodS E Try.prog 62 (S_a28 fu) := by
 intro xs o h y hy
 unfold S_a28 at h
 split at h
 ·rename_i za0_0 na0_0 fa0_0 a1_0
  cases h
  exact goodv_a28 fu (⟨za0_0, na0_0, fa0_0⟩ : (Sl Int)) a1_0 y hy
 ·cases h
def F_impl_NodeFault_B1 {ρ : Type} (fu : Nat) (t75_0 : (Sl Int)) (t76_1 o0_3 o0_4 o0_5 o0_6 : Int) (o0_7 : (Sl S_impl_Entry)) (o0_8 o0_9 : Int) (o0_10 o0_11 o0_12 : (Sl Int)) (o1_13 : Int) (k0 : Option ρ) (k1 : Option ρ) (t77_2 : Int) (go : Int → Option ρ) : Option ρ :=
 (bif (decide (t77_2 < t76_1)) then ((bif (decide (0 ≤ t77_2) && decide ((Int.toNat t77_2) < t75_0.n)) then some () else none : Option Unit).bind fun _ => ((((F_impl_Node_isId fu (⟨o0_3,
  o0_4, o0_5, o0_6, o0_7, o0_8, o0_9, o0_10, o0_11, o0_12⟩ : S_impl_Node) (t75_0.f (Int.toNat t77_2))).bind fun y78 => (bif (!y78) then (some true) else (bif (decide (t77_2 > 0)) then
  ((bif (decide (0 ≤ (IntKind.wrap .i64 (t77_2 - 1))) && decide ((Int.toNat (IntKind.wrap .i64 (t77_2 - 1))) < o0_10.n)) then some () else none : Option Unit).bind fun _ => (some (decide ((t75_0.f (Int.toNat t77_2)) ≤ (o0_10.f (Int.toNat (IntKind.wrap .i64 (t77_2 - 1)))))))) else
  (some false)))) : Option Bool).bind fun m79 => (bif m79 then k0 else (go (IntKind.wrap .i64 (t77_2 + 1)))))) else k1)
def F_impl_NodeFault (fu : Nat) (t_0 : S_impl_Node) : Option (Int) :=
 ((((F_impl_in fu t_0.Peers 1 5).bind fun y64 => (bif (!y64) then (some true) else ((F_impl_Node_isId fu t_0 t_0.Id).bind fun y67 => (bif (!y67) then (some true) else ((F_impl_in fu t_0.Term 0 100000).bind fun y68 =>
  (bif (!y68) then (some true) else (bif (t_0.Voted != (-1)) then ((F_impl_Node_isId fu t_0 t_0.Voted).bind fun y69 => (bif (!y69) then (some true) else ((F_impl_in fu t_0.Role 0 2).bind fun y70 =>
  (some (!y70))))) else ((F_impl_in fu t_0.Role 0 2).bind fun y71 => (some (!y71)))))))))) : Option Bool).bind fun m72 => (bif m72 then (some 3) else ((F_impl_LogFault fu t_0.Log).bind fun y73 =>
  (bif (y73 != 0) then (some y73) else ((F_impl_size_impl_Entry fu t_0.Log).bind fun y74 => ((F_impl_last fu t_0.Log).bind fun y75 => (bif (decide (y75.Term > t_0.Term)) then
  (some 1) else ((F_impl_in fu t_0.Commit 0 y74).bind fun y76 => (bif (!y76) then (some 3) else (((bif (decide (((t_0.Votes.n : Nat) : Int) > 0)) then (some (t_0.Role != 1)) else
  (some false)) : Option Bool).bind fun m77 => (bif m77 then (some 1) else (L (fun w1 go1 => F_impl_NodeFault_B1 fu t_0.Votes ((t_0.Votes.n : Nat) : Int) t_0.Id t_0.Peers t_0.Term t_0.Voted t_0.Log t_0.Role t_0.Commit t_0.Votes t_0.Next t_0.Match y74 (some 1) (bif (t_0.Role == 2) then
  ((((F_impl_size_int64 fu t_0.Next).bind fun y80 => (bif (y80 != t_0.Peers) then (some true) else ((F_impl_size_int64 fu t_0.Match).bind fun y81 => (some (y81 != t_0.Peers))))) : Option Bool).bind fun m82 =>
  (bif m82 then (some 1) else ((F_slices_ContainsFunc_int64_int64_w_impl_NodeFault_c1 fu t_0.Next y74).bind fun y83 => (bif y83 then (some 3) else
  ((F_slices_ContainsFunc_int64_int64_w_impl_NodeFault_c2 fu t_0.Match y74).bind fun y84 => (bif y84 then (some 3) else (((bif (t_0.Role != 0) then (bif (t_0.Voted != t_0.Id) then
  (some true) else (some (t_0.Term == 0))) else (some false)) : Option Bool).bind fun m85 => (bif m85 then (some 1) else (some 0))))))))) else ((((F_impl_size_int64 fu t_0.Next).bind fun y86 =>
  (bif (y86 != 0) then (some true) else ((F_impl_size_int64 fu t_0.Match).bind fun y87 => (some (y87 != 0))))) : Option Bool).bind fun m88 => (bif m88 then (some 1) else
  ((F_slices_ContainsFunc_int64_int64_w_impl_NodeFault_c1 fu t_0.Next y74).bind fun y89 => (bif y89 then (some 3) else ((F_slices_ContainsFunc_int64_int64_w_impl_NodeFault_c2 fu t_0.Match y74).bind fun y90 =>
  (bif y90 then (some 3) else (((bif (t_0.Role != 0) then (bif (t_0.Voted != t_0.Id) then (some true) else (some (t_0.Term == 0))) else (some false)) : Option Bool).bind fun m91 =>
  (bif m91 then (some 1) else (some 0)))))))))) w1 go1) fu (0 : Int)))))))))))))
def pcf_a29 (fu f : Nat) (xs : List (D RT den)) : Option (Out RT den) := match f with | 35 => S_a21 fu xs | 37 => S_a7 fu xs | 58 => S_a10 fu xs | 59 => S_a11 fu xs | 60 => S_a20 fu xs | 61 => S_a22 fu xs | 62 => (match S_a25 fu xs with | some o => some o | none => S_a28 fu xs) | _ => none
def pc_a29 (fu : Nat) : Pc RT den := ⟨pcf_a29 fu, fun _ => false, fun _ => false, pcd0, pcd0, pcx0⟩
def msk_a29 (b : Nat) : List Nat := match b with | 1 => (0 :: 2 :: 3 :: (rg 5 70 (rg 78 66 []))) | 100001 => (0 :: 3 :: (rg 5 139 [])) | 200001 => [40] | 200011 => [64] | 200016 => [98] | 200022 => [105] | 200028 => [128] | _ => []
def ps_a29_1 : List (Pat RT) := (.flat .q :: .flat (.ref 0 0) :: .flat .q :: .flat .q :: .flat (.ref 1 0) :: (fq 70 (.flat (.rs .i64) :: .flat (.int .i64) :: .flat (.int .i64) :: (fq 66 []))))
def os_a29_1 : List (OP RT) := [.box false [(.int .i64), (.int .i64), (.int .i64), (.int .i64), (.rs .impl_Entry), (.int .i64), (.int .i64), (.rs .i64), (.rs .i64), (.rs .i64)], .box false [(.int .i64)]]
def conv_a29_1 (r : Raw den ps_a29_1 os_a29_1) : (Yb1) × (Int) := (((e5 (e10 (e20 (e40 r.1)))).1, (e5 (e10 (e20 (e40 r.1)))).2.1, r.2.1.1, r.2.1.2.1, r.2.1.2.2.1, r.2.1.2.2.2.1, r.2.1.2.2.2.2.1, (e5 r.2.1).1, (e5 r.2.1).2.1, (e5 r.2.1).2.2.1, (e5 r.2.1).2.2.2.1, (e5 r.2.1).2.2.2.2.1, r.2.2.1.1), (e5 (e10 (e20 (e40 r.1)))).2.2.1)
def back_a29_1 (c : Yb1) (w : Int) : St RT den := ⟨(.q :: (.ref 0 0) :: .q :: .q :: (.ref 1 0) :: (qs 70 ((.rs c.1.z .i64 c.1.n c.1.f) :: (ii c.2.1) :: (ii w) :: (qs 66 [])))), [(.box false [(ii c.2.2.1), (ii c.2.2.2.1), (ii c.2.2.2.2.1), (ii (e5 c).1), (.rs (e5 c).2.1.z .impl_Entry (e5 c).2.1.n (e5 c).2.1.f), (ii (e5 c).2.2.1), (ii (e5 c).2.2.2.1), (.rs (e5 c).2.2.2.2.1.z .i64 (e5 c).2.2.2.2.1.n (e5 c).2.2.2.2.1.f), (.rs (e10 c).1.z .i64 (e10 c).1.n (e10 c).1.f), (.rs (e10 c).2.1.z .i64 (e10 c).2.1.n (e10 c).2.1.f)]), (.box false [(ii (e10 c).2.2)])]⟩
def Bk_a29_1 {ρ : Type} (fu : Nat) (c : Yb1) (k : Ex → St RT den → Option ρ) (w : Int) (go : (Int) → Option ρ) : Option ρ := F_impl_NodeFault_B1 fu c.1 c.2.1 c.2.2.1 c.2.2.2.1 c.2.2.2.2.1 (e5 c).1 (e5 c).2.1 (e5 c).2.2.1 (e5 c).2.2.2.1 (e5 c).2.2.2.2.1 (e10 c).1 (e10 c).2.1 (e10 c).2.2 (k .ret ⟨(.q :: (.ref 0 0) :: (ii 1) :: .q :: (.ref 1 0) :: (qs 139 [])), [(.box false [(ii c.2.2.1), (ii c.2.2.2.1), (ii c.2.2.2.2.1), (ii (e5 c).1), (.rs (e5 c).2.1.z .impl_Entry (e5 c).2.1.n (e5 c).2.1.f), (ii (e5 c).2.2.1), (ii (e5 c).2.2.2.1), (.rs (e5 c).2.2.2.2.1.z .i64 (e5 c).2.2.2.2.1.n (e5 c).2.2.2.2.1.f), (.rs (e10 c).1.z .i64 (e10 c).1.n (e10 c).1.f), (.rs (e10 c).2.1.z .i64 (e10 c).2.1.n (e10 c).2.1.f)]), (.box false [(ii (e10 c).2.2)])]⟩) (k (.exit 1) ⟨(.q :: (.ref 0 0) :: .q :: .q :: (.ref 1 0) :: (qs 139 [])), [(.box false [(ii c.2.2.1), (ii c.2.2.2.1), (ii c.2.2.2.2.1), (ii (e5 c).1), (.rs (e5 c).2.1.z .impl_Entry (e5 c).2.1.n (e5 c).2.1.f), (ii (e5 c).2.2.1), (ii (e5 c).2.2.2.1), (.rs (e5 c).2.2.2.2.1.z .i64 (e5 c).2.2.2.2.1.n (e5 c).2.2.2.2.1.f), (.rs (e10 c).1.z .i64 (e10 c).1.n (e10 c).1.f), (.rs (e10 c).2.1.z .i64 (e10 c).2.1.n (e10 c).2.1.f)]), (.box false [(ii (e10 c).2.2)])]⟩) w go
def lp_a29 (fu : Nat) : Lp RT den (Int) := ⟨fun b s k => match b with | 1 => handle ps_a29_1 os_a29_1 conv_a29_1 (Bk_a29_1 fu) fu s k | _ => none, inl0⟩
theorem ev_a29 (fu : Nat) (t_0 : S_impl_Node) : evFun E (pc_a29 fu) msk_a29 (lp_a29 fu) out_i64 19 [(.agg [(ii t_0.Id), (ii t_0.Peers), (ii t_0.Term), (ii t_0.Voted), (.rs t_0.Log.z .impl_Entry t_0.Log.n t_0.Log.f), (ii t_0.Role), (ii t_0.Commit), (.rs t_0.Votes.z .i64 t_0.Votes.n t_0.Votes.f), (.rs t_0.Next.z .i64 t_0.Next.n t_0.Next.f), (.rs t_0.Match.z .i64 t_0.Match.n t_0.Match.f)])] = F_impl_NodeFault fu t_0 := by kernel_rfl
noncomputable def body_a29 : Code := Try.f19.body.getD .skip
noncomputable def lc_a29_1 : Code := ((loops 0 body_a29).getD 0 (0, .skip)).2
theorem round_a29_1 (fu : Nat) : RoundOk E (pc_a29 fu) msk_a29 (lp_a29 fu) 1 lc_a29_1 back_a29_1 1 100001 2 (Bk_a29_1 fu) := fun it k c w => by kernel_rfl
theorem lpok_a29_1 (fu : Nat) : LpAt E (pc_a29 fu) msk_a29 (lp_a29 fu) 1 1 100001 1 lc_a29_1 :=
 handle_ok (ps := ps_a29_1) (os := os_a29_1) (conv := conv_a29_1) (B := Bk_a29_1 fu) (fu := fu) back_a29_1 (fun raw => by kernel_rfl) 2 (fun c w => by kernel_rfl) (round_a29_1 fu)
theorem lpok_a29 (fu : Nat) : LpOk E (pc_a29 fu) 0 msk_a29 (lp_a29 fu) (loops 0 body_a29) := lp_nil (loop_all 1 (by kernel_rfl) fun i hi => match i, hi with
 | 0, _ => by
  have h : (loops 0 body_a29).getD 0 (0, .skip) = (1, lc_a29_1) := by kernel_rfl
  rw [h]; exact lpok_a29_1 fu
 | i + 1, hi => absurd hi (by omega)) (by kernel_rfl)
def S_a29 (fu : Nat) (xs : List (D RT den)) : Option (Out RT den) := match xs with | [.agg [.int .i64 a0_1, .int .i64 a0_2, .int .i64 a0_3, .int .i64 a0_4, .rs za0_5 .impl_Entry na0_5 fa0_5, .int .i64 a0_6, .int .i64 a0_7, .rs za0_8 .i64 na0_8 fa0_8, .rs za0_9 .i64 na0_9 fa0_9, .rs za0_10 .i64 na0_10 fa0_10]] => some ⟨Int, F_impl_NodeFault fu (⟨a0_1, a0_2, a0_3, a0_4, (⟨za0_5, na0_5, fa0_5⟩ : (Sl S_impl_Entry)), a0_6, a0_7, (⟨za0_8, na0_8, fa0_8⟩ : (Sl Int)), (⟨za0_9, na0_9, fa0_9⟩ : (Sl Int)), (⟨za0_10, na0_10, fa0_10⟩ : (Sl Int))⟩ : S_impl_Node), enc_i64, fun _ => true⟩ | _ => none
theorem hpc_a29 (fu : Nat) : HpcOk E Try.prog (pcf_a29 fu) := by
 intro f xs o h
 unfold pcf_a29 at h
 split at h
 ·exact good_a21 fu xs o h
 ·exact good_a7 fu xs o h
 ·exact good_a10 fu xs o h
 ·exact good_a11 fu xs o h
 ·exact good_a20 fu xs o h
 ·exact good_a22 fu xs o h
 ·split at h
  ·rename_i o' ho; cases h; exact good_a25 fu xs _ ho
  ·exact good_a28 fu xs o h
 ·cases h
theorem goodv_a29 (fu : Nat) (t_0 : S_impl_Node) (y : Int) (hy : F_impl_NodeFault fu t_0 = some y) : Good E Try.prog 19 [(.agg [(ii t_0.Id), (ii t_0.Peers), (ii t_0.Term), (ii t_0.Voted), (.rs t_0.Log.z .impl_Entry t_0.Log.n t_0.Log.f), (ii t_0.Role), (ii t_0.Commit), (.rs t_0.Votes.z .i64 t_0.Votes.n t_0.Votes.f), (.rs t_0.Next.z .i64 t_0.Next.n t_0.Next.f), (.rs t_0.Match.z .i64 t_0.Match.n t_0.Match.f)])] (enc_i64 y) :=
 fun_good E_ok (pc_good (pc := pc_a29 fu) (hpc_a29 fu) hpx0) (fn := Try.f19) (by kernel_rfl) (by kernel_rfl) (by kernel_rfl) (lpok_a29 fu) (fun d hd => out_i64_enc d _ hd) ((ev_a29 fu t_0).trans hy)
theorem good_a29 (fu : Nat) : GoodS E Try.prog 19 (S_a29 fu) := by
 intro xs o h y hy
 unfold S_a29 at h
 split at h
 ·rename_i a0_1 a0_2 a0_3 a0_4 za0_5 na0_5 fa0_5 a0_6 a0_7 za0_8 na0_8 fa0_8 za0_9 na0_9 fa0_9 za0_10 na0_10 fa0_10
  cases h
  exact goodv_a29 fu (⟨a0_1, a0_2, a0_3, a0_4, (⟨za0_5, na0_5, fa0_5⟩ : (Sl S_impl_Entry)), a0_6, a0_7, (⟨za0_8, na0_8, fa0_8⟩ : (Sl Int)), (⟨za0_9, na0_9, fa0_9⟩ : (Sl Int)), (⟨za0_10, na0_10, fa0_10⟩ : (Sl Int))⟩ : S_impl_Node) y hy
 ·cases h
def F_impl_TimeoutNode_U_i0_B0 {ρ : Type} (fu : Nat) (with1_0 with1_1 with1_2 with1_3 : Int) (with1_4 : (Sl S_impl_Entry)) (with1_5 with1_6 : Int) (with1_7 with1_8 with1_9 : (Sl Int)) (t8_10 h23_12 h23_13 h23_14 h23_15 : Int) (h23_16 : (Sl S_impl_Entry)) (h23_17 h23_18 : Int) (h23_19 h23_20 h23_21 : (Sl Int)) (h60_22 h60_23 h60_24 h60_25 : Int) (h60_26 : (Sl S_impl_Entry)) (h60_27 h60_28 : Int) (h60_29 h60_30 h60_31 : (Sl Int)) (o0_32 o0_33 o0_34 o0_35 o0_36 o0_37 o0_38 o2_39 o2_40 o2_41 o2_42 : Int) (o2_43 : Nat) (o2_44 o2_45 : Int) (o2_46 o2_47 o2_48 on4_50 : Nat) (of4_51 : (Nat → S_impl_Entry)) (on5_52 : Nat) (of5_53 : (Nat → Int)) (on6_54 : Nat) (of6_55 : (Nat → Int)) (on7_56 : Nat) (of7_57 : (Nat → Int)) (on8_58 : Nat) (of8_59 : (Nat → Int)) (k0 : Nat → Nat → Nat → (Nat → S_impl_Mail) → Option ρ) (t9_11 : Int) (o3_49 on9_60 op9_61 : Nat) (of9_62 : (Nat → S_impl_Mail)) (go : Int → Nat → Nat → Nat → (Nat → S_impl_Mail) → Option ρ) : Option ρ :=
 (bif (decide (t9_11 < t8_10)) then (bif (t9_11 != o2_39) then ((F_impl_size_impl_Entry fu with1_4).bind fun y33 => ((F_impl_last fu with1_4).bind fun y34 => (bif (decide (o3_49 ≤ op9_61) &&
  (decide ((o3_49 + 1) ≤ 9223372036854775807) && decide ((o3_49 + 1) * 88 ≤ 140737488355328))) then (go (IntKind.wrap .i64 (t9_11 + 1)) (o3_49 + 1) (o3_49 + 1) (o3_49 + 1) (fun i =>
  if i < o3_49 then (of9_62 i) else (⟨1, with1_0, t9_11, o2_41, y33, y34.Term, 0, false, (⟨(some true), 0, (fun _ => dflt .impl_Entry)⟩ : (Sl S_impl_Entry))⟩ : S_impl_Mail))) else
  none))) else (go (IntKind.wrap .i64 (t9_11 + 1)) o3_49 on9_60 op9_61 of9_62)) else (k0 o3_49 on9_60 op9_61 of9_62))
def F_impl_TimeoutNode_U (fu : Nat) (n_0 : S_impl_Node) : Option (Yb2) :=
 ((F_impl_NodeFault fu n_0).bind fun y31 => (bif (y31 != 0) then (bif (decide ((0 : Nat) = 0) && true) then (some (y31, 0, 0, 0, 0, 0, 0, 0, 0, 0, 0, 0, 0, (fun _ => dflt .impl_Entry),
  0, (fun _ => dflt .i64), 0, (fun _ => dflt .i64), 0, (fun _ => dflt .i64), 0, (fun _ => dflt .impl_Mail))) else none) else (bif (n_0.Role == 2) then (bif (decide ((0 : Nat) = 0) &&
  true) then (some (10, 0, 0, 0, 0, 0, 0, 0, 0, 0, 0, 0, 0, (fun _ => dflt .impl_Entry), 0, (fun _ => dflt .i64), 0, (fun _ => dflt .i64), 0, (fun _ => dflt .i64), 0, (fun _ =>
  dflt .impl_Mail))) else none) else (bif (n_0.Term == 100000) then (bif (decide ((0 : Nat) = 0) && true) then (some (3, 0, 0, 0, 0, 0, 0, 0, 0, 0, 0, 0, 0, (fun _ => dflt .impl_Entry),
  0, (fun _ => dflt .i64), 0, (fun _ => dflt .i64), 0, (fun _ => dflt .i64), 0, (fun _ => dflt .impl_Mail))) else none) else ((F_impl_Node_copied_H fu n_0).bind fun y32 => (L (fun w0 go0 =>
  F_impl_TimeoutNode_U_i0_B0 fu n_0.Id n_0.Peers n_0.Term n_0.Voted n_0.Log n_0.Role n_0.Commit n_0.Votes n_0.Next n_0.Match y32.Peers n_0.Id n_0.Peers n_0.Term n_0.Voted n_0.Log n_0.Role n_0.Commit n_0.Votes n_0.Next n_0.Match n_0.Id n_0.Peers n_0.Term n_0.Voted n_0.Log n_0.Role n_0.Commit n_0.Votes n_0.Next n_0.Match 0 0 0 0 0 0 0 y32.Id y32.Peers (IntKind.wrap .i64 (y32.Term + 1)) n_0.Id y32.Log.n 1 y32.Commit 1 y32.Next.n y32.Match.n y32.Log.n y32.Log.f y32.Votes.n y32.Votes.f y32.Next.n y32.Next.f y32.Match.n y32.Match.f 1 (fun i =>
  ([n_0.Id] : List (Int)).getD i (dflt .i64)) (fun z35 z36 z37 z38 => ((F_impl_Node_isQuorum fu (⟨y32.Id, y32.Peers, (IntKind.wrap .i64 (y32.Term + 1)), n_0.Id, (⟨none, y32.Log.n,
  y32.Log.f⟩ : (Sl S_impl_Entry)), 1, y32.Commit, (⟨none, 1, (fun i => ([n_0.Id] : List (Int)).getD i (dflt .i64))⟩ : (Sl Int)), (⟨none, y32.Next.n, y32.Next.f⟩ : (Sl Int)),
  (⟨none, y32.Match.n, y32.Match.f⟩ : (Sl Int))⟩ : S_impl_Node) 1).bind fun y39 => (bif y39 then ((F_impl_Node_lead_M fu y32.Id y32.Peers (IntKind.wrap .i64 (y32.Term + 1)) n_0.Id y32.Log.n 1 y32.Commit 1 y32.Next.n y32.Match.n y32.Log.n y32.Log.f 1 (fun i =>
  ([n_0.Id] : List (Int)).getD i (dflt .i64)) y32.Next.n y32.Next.f y32.Match.n y32.Match.f).bind fun y63 => (bif (decide (z35 ≤ z37) && true) then (bif (decide (z35 = z35) &&
  true) then (some (0, y63.1, y63.2.1, y63.2.2.1, y63.2.2.2.1, y63.2.2.2.2.1, y63.2.2.2.2.2.1, y63.2.2.2.2.2.2.1, 0, y63.2.2.2.2.2.2.2.1, y63.2.2.2.2.2.2.2.2.1, z35,
  y63.2.2.2.2.1, y63.2.2.2.2.2.2.2.2.2.2.1, 0, (fun _ => dflt .i64), y63.2.2.2.2.2.2.2.1, y63.2.2.2.2.2.2.2.2.2.2.2.2.2.2.2.2.2.2.1, y63.2.2.2.2.2.2.2.2.1,
  y63.2.2.2.2.2.2.2.2.2.2.2.2.2.2.2.2.2.2.2.2, z35, z38)) else none) else none)) else (bif (decide (z35 ≤ z37) && true) then (bif (decide (z35 = z35) && true) then (some (0,
  y32.Id, y32.Peers, (IntKind.wrap .i64 (y32.Term + 1)), n_0.Id, y32.Log.n, 1, y32.Commit, 1, y32.Next.n, y32.Match.n, z35, y32.Log.n, y32.Log.f, 1, (fun i => ([n_0.Id] : List (Int)).getD i (dflt .i64)),
  y32.Next.n, y32.Next.f, y32.Match.n, y32.Match.f, z35, z38)) else none) else none)))) w0.1 w0.2.1 w0.2.2.1 w0.2.2.2.1 w0.2.2.2.2 (fun q0 q1 q2 q3 q4 => go0 (q0, q1, q2, q3,
  q4))) fu ((0, 0, 0, 0, (fun _ => dflt .impl_Mail)) : Yb0)))))))
def pcf_a30 (fu f : Nat) (xs : List (D RT den)) : Option (Out RT den) := match f with | 19 => S_a29 fu xs | 35 => S_a21 fu xs | 37 => S_a7 fu xs | 50 => S_a3 fu xs | _ => none
def pcx_a30 (fu f : Nat) (xs : List (D RT den)) (ins : List (Ob RT den)) : Option (OutX RT den) := match f with | 32 => S_a2 fu xs ins | 51 => S_a9 fu xs ins | _ => none
def pcd_a30 : Nat → Bool := fun _ => false
def pc_a30 (fu : Nat) : Pc RT den := ⟨pcf_a30 fu, fun f => match f with | 32 => true | 51 => true | _ => false, fun f => match f with | 51 => true | _ => false, pcd_a30, pcd0, pcx_a30 fu⟩
def msk_a30i0i0 (b : Nat) : List Nat := []
noncomputable def body_a30i0i0 : Code := Try.f49.body.getD .skip
def msk_a30i0 (b : Nat) : List Nat := match b with | 0 => (rg 2 6 (rg 10 12 [])) | 100000 => (rg 0 22 []) | 300000 => [1003000, 5000009] | 600004 => [2000] | 800004 => (2 :: 3 :: 5 :: 6 :: 7 :: (rg 10 12 [])) | _ => []
noncomputable def body_a30i0 : Code := Try.f33.body.getD .skip
def msk_a30 (b : Nat) : List Nat := match b with | 500010 => [1] | 600010 => [4990] | 800010 => (0 :: 3 :: (rg 6 39 [])) | 600011 => [1000] | 800011 => (0 :: 3 :: (rg 6 39 [])) | _ => []
def ps_a30i0_0 : List (Pat RT) := (.flat (.ref 2 0) :: .fn 49 [.flat (.ref 3 0), .rptr [(.int .i64), (.int .i64), (.int .i64), (.int .i64), (.rs .impl_Entry), (.int .i64), (.int .i64), (.rs .i64), (.rs .i64), (.rs .i64)], .flat (.ref 2 0)] :: (fq 6 (.flat (.int .i64) :: .flat (.int .i64) :: (fq 13 (.rptr [(.int .i64), (.int .i64), (.int .i64), (.int .i64), (.rs .impl_Entry), (.int .i64), (.int .i64), (.rs .i64), (.rs .i64), (.rs .i64)] :: .flat (.ref 0 0) :: .flat .q :: .flat (.ref 2 0) :: .flat (.ref 3 0) :: (fq 32 (.fn 49 [.flat (.ref 3 0), .rptr [(.int .i64), (.int .i64), (.int .i64), (.int .i64), (.rs .impl_Entry), (.int .i64), (.int .i64), (.rs .i64), (.rs .i64), (.rs .i64)], .flat (.ref 2 0)] :: (fq 6 []))))))))
def os_a30i0_0 : List (OP RT) := [.box false [(.int .i64), (.int .i64), (.int .i64), (.int .i64), (.int .i64), (.emp true .impl_Entry), (.int .i64), (.int .i64), (.emp true .i64), (.emp true .i64), (.emp true .i64), (.emp true .impl_Mail)], .gone, .box false [(.int .i64), (.int .i64), (.int .i64), (.int .i64), (.os 4), (.int .i64), (.int .i64), (.os 8), (.os 6), (.os 7)], .box false [(.os 9)], .row false .impl_Entry, .row false .i64, .row false .i64, .row false .i64, .row false .i64, .deep false .impl_Mail]
def conv_a30i0_0 (r : Raw den ps_a30i0_0 os_a30i0_0) : (Yb3) × (Yb0) := ((r.1.2.1.2.1.1, r.1.2.1.2.1.2.1, r.1.2.1.2.1.2.2.1, r.1.2.1.2.1.2.2.2.1, r.1.2.1.2.1.2.2.2.2.1, (e5 r.1.2.1.2.1).1, (e5 r.1.2.1.2.1).2.1, (e5 r.1.2.1.2.1).2.2.1, (e5 r.1.2.1.2.1).2.2.2.1, (e5 r.1.2.1.2.1).2.2.2.2.1, (e5 r.1).2.2.2.1, (e20 r.1).2.2.2.1.1, (e20 r.1).2.2.2.1.2.1, (e20 r.1).2.2.2.1.2.2.1, (e20 r.1).2.2.2.1.2.2.2.1, (e20 r.1).2.2.2.1.2.2.2.2.1, (e5 r.1.2.2.2.2.2.2.2.2.2.2.2.2.2.2.2.2.2.2.2.2.2.2.2.1).1, (e5 r.1.2.2.2.2.2.2.2.2.2.2.2.2.2.2.2.2.2.2.2.2.2.2.2.1).2.1, (e5 r.1.2.2.2.2.2.2.2.2.2.2.2.2.2.2.2.2.2.2.2.2.2.2.2.1).2.2.1, (e5 r.1.2.2.2.2.2.2.2.2.2.2.2.2.2.2.2.2.2.2.2.2.2.2.2.1).2.2.2.1, (e5 r.1.2.2.2.2.2.2.2.2.2.2.2.2.2.2.2.2.2.2.2.2.2.2.2.1).2.2.2.2.1, (e20 (e40 r.1)).1.2.1.1, (e20 (e40 r.1)).1.2.1.2.1, (e20 (e40 r.1)).1.2.1.2.2.1, (e20 (e40 r.1)).1.2.1.2.2.2.1, (e20 (e40 r.1)).1.2.1.2.2.2.2.1, (e5 r.1.2.2.2.2.2.2.2.2.2.2.2.2.2.2.2.2.2.2.2.2.2.2.2.2.2.2.2.2.2.2.2.2.2.2.2.2.2.2.2.2.2.2.2.2.2.2.2.2.2.2.2.2.2.2.2.2.2.2.2.2.1.2.1).1, (e5 r.1.2.2.2.2.2.2.2.2.2.2.2.2.2.2.2.2.2.2.2.2.2.2.2.2.2.2.2.2.2.2.2.2.2.2.2.2.2.2.2.2.2.2.2.2.2.2.2.2.2.2.2.2.2.2.2.2.2.2.2.2.1.2.1).2.1, (e5 r.1.2.2.2.2.2.2.2.2.2.2.2.2.2.2.2.2.2.2.2.2.2.2.2.2.2.2.2.2.2.2.2.2.2.2.2.2.2.2.2.2.2.2.2.2.2.2.2.2.2.2.2.2.2.2.2.2.2.2.2.2.1.2.1).2.2.1, (e5 r.1.2.2.2.2.2.2.2.2.2.2.2.2.2.2.2.2.2.2.2.2.2.2.2.2.2.2.2.2.2.2.2.2.2.2.2.2.2.2.2.2.2.2.2.2.2.2.2.2.2.2.2.2.2.2.2.2.2.2.2.2.1.2.1).2.2.2.1, (e5 r.1.2.2.2.2.2.2.2.2.2.2.2.2.2.2.2.2.2.2.2.2.2.2.2.2.2.2.2.2.2.2.2.2.2.2.2.2.2.2.2.2.2.2.2.2.2.2.2.2.2.2.2.2.2.2.2.2.2.2.2.2.1.2.1).2.2.2.2.1, r.2.1.1, r.2.1.2.1, r.2.1.2.2.1, r.2.1.2.2.2.1, r.2.1.2.2.2.2.1, (e5 r.2.1).2.1, (e5 r.2.1).2.2.1, r.2.2.2.1.1, r.2.2.2.1.2.1, r.2.2.2.1.2.2.1, r.2.2.2.1.2.2.2.1, r.2.2.2.1.2.2.2.2.1, (e5 r.2.2.2.1).1, (e5 r.2.2.2.1).2.1, (e5 r.2.2.2.1).2.2.1, (e5 r.2.2.2.1).2.2.2.1, (e5 r.2.2.2.1).2.2.2.2.1, (e5 r).1.1, (e5 r).1.2, (e5 r).2.1.1, (e5 r).2.1.2, (e5 r).2.2.1.1, (e5 r).2.2.1.2, (e5 r).2.2.2.1.1, (e5 r).2.2.2.1.2, (e5 r).2.2.2.2.1.1, (e5 r).2.2.2.2.1.2), ((e5 r.1).2.2.2.2.1, r.2.2.2.2.1.1, (e10 r).1.1, (e10 r).1.2.1, (e10 r).1.2.2))
def back_a30i0_0 (c : Yb3) (w : Yb0) : St RT den := ⟨((.ref 2 0) :: (.fn 49 [(.ref 3 0), (.rptr [(ii c.1), (ii c.2.1), (ii c.2.2.1), (ii c.2.2.2.1), (.rs c.2.2.2.2.1.z .impl_Entry c.2.2.2.2.1.n c.2.2.2.2.1.f), (ii (e5 c).1), (ii (e5 c).2.1), (.rs (e5 c).2.2.1.z .i64 (e5 c).2.2.1.n (e5 c).2.2.1.f), (.rs (e5 c).2.2.2.1.z .i64 (e5 c).2.2.2.1.n (e5 c).2.2.2.1.f), (.rs (e5 c).2.2.2.2.1.z .i64 (e5 c).2.2.2.2.1.n (e5 c).2.2.2.2.1.f)]), (.ref 2 0)]) :: (qs 6 ((ii (e10 c).1) :: (ii w.1) :: (qs 13 ((.rptr [(ii (e10 c).2.1), (ii (e10 c).2.2.1), (ii (e10 c).2.2.2.1), (ii (e10 c).2.2.2.2.1), (.rs (e5 (e10 c)).1.z .impl_Entry (e5 (e10 c)).1.n (e5 (e10 c)).1.f), (ii (e5 (e10 c)).2.1), (ii (e5 (e10 c)).2.2.1), (.rs (e5 (e10 c)).2.2.2.1.z .i64 (e5 (e10 c)).2.2.2.1.n (e5 (e10 c)).2.2.2.1.f), (.rs (e5 (e10 c)).2.2.2.2.1.z .i64 (e5 (e10 c)).2.2.2.2.1.n (e5 (e10 c)).2.2.2.2.1.f), (.rs (e20 c).1.z .i64 (e20 c).1.n (e20 c).1.f)]) :: (.ref 0 0) :: .q :: (.ref 2 0) :: (.ref 3 0) :: (qs 32 ((.fn 49 [(.ref 3 0), (.rptr [(ii (e20 c).2.1), (ii (e20 c).2.2.1), (ii (e20 c).2.2.2.1), (ii (e20 c).2.2.2.2.1), (.rs (e5 (e20 c)).1.z .impl_Entry (e5 (e20 c)).1.n (e5 (e20 c)).1.f), (ii (e5 (e20 c)).2.1), (ii (e5 (e20 c)).2.2.1), (.rs (e5 (e20 c)).2.2.2.1.z .i64 (e5 (e20 c)).2.2.2.1.n (e5 (e20 c)).2.2.2.1.f), (.rs (e5 (e20 c)).2.2.2.2.1.z .i64 (e5 (e20 c)).2.2.2.2.1.n (e5 (e20 c)).2.2.2.2.1.f), (.rs (e10 (e20 c)).1.z .i64 (e10 (e20 c)).1.n (e10 (e20 c)).1.f)]), (.ref 2 0)]) :: (qs 6 [])))))))), [(.box false [(ii (e10 (e20 c)).2.1), (ii (e10 (e20 c)).2.2.1), (ii (e10 (e20 c)).2.2.2.1), (ii (e10 (e20 c)).2.2.2.2.1), (ii (e5 (e10 (e20 c))).1), (.emp true .impl_Entry), (ii (e5 (e10 (e20 c))).2.1), (ii (e5 (e10 (e20 c))).2.2.1), (.emp true .i64), (.emp true .i64), (.emp true .i64), (.emp true .impl_Mail)]), .gone, (.box false [(ii (e5 (e10 (e20 c))).2.2.2.1), (ii (e5 (e10 (e20 c))).2.2.2.2.1), (ii (e40 c).1), (ii (e40 c).2.1), (.os 4 (e40 c).2.2.1), (ii (e40 c).2.2.2.1), (ii (e40 c).2.2.2.2.1), (.os 8 (e5 (e40 c)).1), (.os 6 (e5 (e40 c)).2.1), (.os 7 (e5 (e40 c)).2.2.1)]), (.box false [(.os 9 w.2.1)]), (.row false .impl_Entry (e5 (e40 c)).2.2.2.1 (e5 (e40 c)).2.2.2.2.1), (.row false .i64 (e10 (e40 c)).1 (e10 (e40 c)).2.1), (.row false .i64 (e10 (e40 c)).2.2.1 (e10 (e40 c)).2.2.2.1), (.row false .i64 (e10 (e40 c)).2.2.2.2.1 (e5 (e10 (e40 c))).1), (.row false .i64 (e5 (e10 (e40 c))).2.1 (e5 (e10 (e40 c))).2.2), (.deep false .impl_Mail w.2.2.1 w.2.2.2.1 w.2.2.2.2)]⟩
def Bk_a30i0_0 {ρ : Type} (fu : Nat) (c : Yb3) (k : Ex → St RT den → Option ρ) (w : Yb0) (go : (Yb0) → Option ρ) : Option ρ := F_impl_TimeoutNode_U_i0_B0 fu c.1 c.2.1 c.2.2.1 c.2.2.2.1 c.2.2.2.2.1 (e5 c).1 (e5 c).2.1 (e5 c).2.2.1 (e5 c).2.2.2.1 (e5 c).2.2.2.2.1 (e10 c).1 (e10 c).2.1 (e10 c).2.2.1 (e10 c).2.2.2.1 (e10 c).2.2.2.2.1 (e5 (e10 c)).1 (e5 (e10 c)).2.1 (e5 (e10 c)).2.2.1 (e5 (e10 c)).2.2.2.1 (e5 (e10 c)).2.2.2.2.1 (e20 c).1 (e20 c).2.1 (e20 c).2.2.1 (e20 c).2.2.2.1 (e20 c).2.2.2.2.1 (e5 (e20 c)).1 (e5 (e20 c)).2.1 (e5 (e20 c)).2.2.1 (e5 (e20 c)).2.2.2.1 (e5 (e20 c)).2.2.2.2.1 (e10 (e20 c)).1 (e10 (e20 c)).2.1 (e10 (e20 c)).2.2.1 (e10 (e20 c)).2.2.2.1 (e10 (e20 c)).2.2.2.2.1 (e5 (e10 (e20 c))).1 (e5 (e10 (e20 c))).2.1 (e5 (e10 (e20 c))).2.2.1 (e5 (e10 (e20 c))).2.2.2.1 (e5 (e10 (e20 c))).2.2.2.2.1 (e40 c).1 (e40 c).2.1 (e40 c).2.2.1 (e40 c).2.2.2.1 (e40 c).2.2.2.2.1 (e5 (e40 c)).1 (e5 (e40 c)).2.1 (e5 (e40 c)).2.2.1 (e5 (e40 c)).2.2.2.1 (e5 (e40 c)).2.2.2.2.1 (e10 (e40 c)).1 (e10 (e40 c)).2.1 (e10 (e40 c)).2.2.1 (e10 (e40 c)).2.2.2.1 (e10 (e40 c)).2.2.2.2.1 (e5 (e10 (e40 c))).1 (e5 (e10 (e40 c))).2.1 (e5 (e10 (e40 c))).2.2 (fun a0 a1 a2 a3 => k (.exit 0) ⟨(qs 23 ((.rptr [(ii (e10 c).2.1), (ii (e10 c).2.2.1), (ii (e10 c).2.2.2.1), (ii (e10 c).2.2.2.2.1), (.rs (e5 (e10 c)).1.z .impl_Entry (e5 (e10 c)).1.n (e5 (e10 c)).1.f), (ii (e5 (e10 c)).2.1), (ii (e5 (e10 c)).2.2.1), (.rs (e5 (e10 c)).2.2.2.1.z .i64 (e5 (e10 c)).2.2.2.1.n (e5 (e10 c)).2.2.2.1.f), (.rs (e5 (e10 c)).2.2.2.2.1.z .i64 (e5 (e10 c)).2.2.2.2.1.n (e5 (e10 c)).2.2.2.2.1.f), (.rs (e20 c).1.z .i64 (e20 c).1.n (e20 c).1.f)]) :: (.ref 0 0) :: .q :: (.ref 2 0) :: (.ref 3 0) :: (qs 32 ((.fn 49 [(.ref 3 0), (.rptr [(ii (e20 c).2.1), (ii (e20 c).2.2.1), (ii (e20 c).2.2.2.1), (ii (e20 c).2.2.2.2.1), (.rs (e5 (e20 c)).1.z .impl_Entry (e5 (e20 c)).1.n (e5 (e20 c)).1.f), (ii (e5 (e20 c)).2.1), (ii (e5 (e20 c)).2.2.1), (.rs (e5 (e20 c)).2.2.2.1.z .i64 (e5 (e20 c)).2.2.2.1.n (e5 (e20 c)).2.2.2.1.f), (.rs (e5 (e20 c)).2.2.2.2.1.z .i64 (e5 (e20 c)).2.2.2.2.1.n (e5 (e20 c)).2.2.2.2.1.f), (.rs (e10 (e20 c)).1.z .i64 (e10 (e20 c)).1.n (e10 (e20 c)).1.f)]), (.ref 2 0)]) :: (qs 6 []))))), [(.box false [(ii (e10 (e20 c)).2.1), (ii (e10 (e20 c)).2.2.1), (ii (e10 (e20 c)).2.2.2.1), (ii (e10 (e20 c)).2.2.2.2.1), (ii (e5 (e10 (e20 c))).1), (.emp true .impl_Entry), (ii (e5 (e10 (e20 c))).2.1), (ii (e5 (e10 (e20 c))).2.2.1), (.emp true .i64), (.emp true .i64), (.emp true .i64), (.emp true .impl_Mail)]), .gone, (.box false [(ii (e5 (e10 (e20 c))).2.2.2.1), (ii (e5 (e10 (e20 c))).2.2.2.2.1), (ii (e40 c).1), (ii (e40 c).2.1), (.os 4 (e40 c).2.2.1), (ii (e40 c).2.2.2.1), (ii (e40 c).2.2.2.2.1), (.os 8 (e5 (e40 c)).1), (.os 6 (e5 (e40 c)).2.1), (.os 7 (e5 (e40 c)).2.2.1)]), (.box false [(.os 9 a0)]), (.row false .impl_Entry (e5 (e40 c)).2.2.2.1 (e5 (e40 c)).2.2.2.2.1), (.row false .i64 (e10 (e40 c)).1 (e10 (e40 c)).2.1), (.row false .i64 (e10 (e40 c)).2.2.1 (e10 (e40 c)).2.2.2.1), (.row false .i64 (e10 (e40 c)).2.2.2.2.1 (e5 (e10 (e40 c))).1), (.row false .i64 (e5 (e10 (e40 c))).2.1 (e5 (e10 (e40 c))).2.2), (.deep false .impl_Mail a1 a2 a3)]⟩) w.1 w.2.1 w.2.2.1 w.2.2.2.1 w.2.2.2.2 (fun q0 q1 q2 q3 q4 => go (q0, q1, q2, q3, q4))
def lp_a30i0i0 (fu : Nat) : Lp RT den (Yb2) := ⟨fun b s k => none, inl0⟩
noncomputable def lp_a30i0 (fu : Nat) : Lp RT den (Yb2) := ⟨fun b s k => match b with | 0 => handle ps_a30i0_0 os_a30i0_0 conv_a30i0_0 (Bk_a30i0_0 fu) fu s k | _ => none, inlL [(49, evCode E (pc_a30 fu) msk_a30i0i0 (lp_a30i0i0 fu) 0 body_a30i0i0)]⟩
noncomputable def lp_a30 (fu : Nat) : Lp RT den (Yb2) := ⟨fun b s k => none, inlL [(33, evCode E (pc_a30 fu) msk_a30i0 (lp_a30i0 fu) 0 body_a30i0)]⟩
def pso_a30 : List (Pat RT) := [.agg [(.int .i64), (.int .i64), (.int .i64), (.int .i64), (.int .i64), (.os 0), (.int .i64), (.int .i64), (.os 1), (.os 2), (.os 3), (.os 4)]]
def oso_a30 : List (OP RT) := [.row false .impl_Entry, .row false .i64, .row false .i64, .row false .i64, .deep false .impl_Mail]
def conv_a30 (r : Raw den pso_a30 oso_a30) : Yb2 := (r.1.1.1, r.1.1.2.1, r.1.1.2.2.1, r.1.1.2.2.2.1, r.1.1.2.2.2.2.1, (e5 r.1.1).1, (e5 r.1.1).2.1, (e5 r.1.1).2.2.1, (e5 r.1.1).2.2.2.1, (e5 r.1.1).2.2.2.2.1, (e10 r.1.1).1, (e10 r.1.1).2.1, r.2.1.1, r.2.1.2, r.2.2.1.1, r.2.2.1.2, r.2.2.2.1.1, r.2.2.2.1.2, r.2.2.2.2.1.1, r.2.2.2.2.1.2, (e5 r).1.1, (e5 r).1.2.2)
def enc_a30 (y : Yb2) : D RT den × List (Ob RT den) := ((.agg [(.int .i64 y.1), (.int .i64 y.2.1), (.int .i64 y.2.2.1), (.int .i64 y.2.2.2.1), (.int .i64 y.2.2.2.2.1), (.os 0 y.2.2.2.2.2.1), (.int .i64 y.2.2.2.2.2.2.1), (.int .i64 y.2.2.2.2.2.2.2.1), (.os 1 y.2.2.2.2.2.2.2.2.1), (.os 2 y.2.2.2.2.2.2.2.2.2.1), (.os 3 y.2.2.2.2.2.2.2.2.2.2.1), (.os 4 y.2.2.2.2.2.2.2.2.2.2.2.1)]), [(.row false .impl_Entry y.2.2.2.2.2.2.2.2.2.2.2.2.1 y.2.2.2.2.2.2.2.2.2.2.2.2.2.1), (.row false .i64 y.2.2.2.2.2.2.2.2.2.2.2.2.2.2.1 y.2.2.2.2.2.2.2.2.2.2.2.2.2.2.2.1), (.row false .i64 y.2.2.2.2.2.2.2.2.2.2.2.2.2.2.2.2.1 y.2.2.2.2.2.2.2.2.2.2.2.2.2.2.2.2.2.1), (.row false .i64 y.2.2.2.2.2.2.2.2.2.2.2.2.2.2.2.2.2.2.1 y.2.2.2.2.2.2.2.2.2.2.2.2.2.2.2.2.2.2.2.1), (.deep false .impl_Mail y.2.2.2.2.2.2.2.2.2.2.2.2.2.2.2.2.2.2.2.2.1 y.2.2.2.2.2.2.2.2.2.2.2.2.2.2.2.2.2.2.2.2.1 y.2.2.2.2.2.2.2.2.2.2.2.2.2.2.2.2.2.2.2.2.2)])
def chk_a30 (r : Raw den pso_a30 oso_a30) : Bool := (decide (r.2.2.2.2.2.1.2.1 = r.2.2.2.2.2.1.1) && true)
def raw_a30 (r : Raw den pso_a30 oso_a30) : St RT den := ⟨[(.agg [(.int .i64 r.1.1.1), (.int .i64 r.1.1.2.1), (.int .i64 r.1.1.2.2.1), (.int .i64 r.1.1.2.2.2.1), (.int .i64 r.1.1.2.2.2.2.1), (.os 0 r.1.1.2.2.2.2.2.1), (.int .i64 r.1.1.2.2.2.2.2.2.1), (.int .i64 r.1.1.2.2.2.2.2.2.2.1), (.os 1 r.1.1.2.2.2.2.2.2.2.2.1), (.os 2 r.1.1.2.2.2.2.2.2.2.2.2.1), (.os 3 r.1.1.2.2.2.2.2.2.2.2.2.2.1), (.os 4 r.1.1.2.2.2.2.2.2.2.2.2.2.2.1)])], [(.row false .impl_Entry r.2.1.1 r.2.1.2), (.row false .i64 r.2.2.1.1 r.2.2.1.2), (.row false .i64 r.2.2.2.1.1 r.2.2.2.1.2), (.row false .i64 r.2.2.2.2.1.1 r.2.2.2.2.1.2), (.deep false .impl_Mail r.2.2.2.2.2.1.1 r.2.2.2.2.2.1.2.1 r.2.2.2.2.2.1.2.2)]⟩
theorem chkd_a30 (r : Raw den pso_a30 oso_a30) (h : chk_a30 r = true) : raw_a30 r = ⟨[(enc_a30 (conv_a30 r)).1], (enc_a30 (conv_a30 r)).2⟩ := by
 simp only [chk_a30, Bool.and_eq_true, decide_eq_true_eq, and_true] at h
 simp only [raw_a30, enc_a30, conv_a30, h, e5, e10, e20, e40]
def out_a30 (d : D RT den) (os : List (Ob RT den)) : Option (Yb2) := (unSt pso_a30 oso_a30 ⟨[d], os⟩).bind fun v => bif chk_a30 v.1 then some (conv_a30 v.1) else none
theorem out_a30_enc (d : D RT den) (os : List (Ob RT den)) (y : Yb2) (h : out_a30 d os = some y) : d = (enc_a30 y).1 ∧ os = (enc_a30 y).2 :=
 outU (conv := conv_a30) (enc := enc_a30) (chk := chk_a30) (fun raw h => Eq.trans (by kernel_rfl) (chkd_a30 raw h)) h
theorem ev_a30 (fu : Nat) (n_0 : S_impl_Node) : evFunU E (pc_a30 fu) msk_a30 (lp_a30 fu) out_a30 16 [(.agg [(ii n_0.Id), (ii n_0.Peers), (ii n_0.Term), (ii n_0.Voted), (.rs n_0.Log.z .impl_Entry n_0.Log.n n_0.Log.f), (ii n_0.Role), (ii n_0.Commit), (.rs n_0.Votes.z .i64 n_0.Votes.n n_0.Votes.f), (.rs n_0.Next.z .i64 n_0.Next.n n_0.Next.f), (.rs n_0.Match.z .i64 n_0.Match.n n_0.Match.f)])] [] = F_impl_TimeoutNode_U fu n_0 := by kernel_rfl
noncomputable def body_a30 : Code := Try.f16.body.getD .skip
theorem lpok_a30i0i0 (fu : Nat) : LpOk E (pc_a30 fu) 0 msk_a30i0i0 (lp_a30i0i0 fu) (loops 0 body_a30i0i0) := lp_nil (loop_nil (by kernel_rfl)) (by kernel_rfl)
noncomputable def lc_a30i0_0 : Code := ((loops 0 body_a30i0).getD 0 (0, .skip)).2
theorem round_a30i0_0 (fu : Nat) : RoundOk E (pc_a30 fu) msk_a30i0 (lp_a30i0 fu) 0 lc_a30i0_0 back_a30i0_0 0 100000 10 (Bk_a30i0_0 fu) := fun it k c w => by kernel_rfl
theorem lpok_a30i0_0 (fu : Nat) : LpAt E (pc_a30 fu) msk_a30i0 (lp_a30i0 fu) 0 0 100000 0 lc_a30i0_0 :=
 handle_ok (ps := ps_a30i0_0) (os := os_a30i0_0) (conv := conv_a30i0_0) (B := Bk_a30i0_0 fu) (fu := fu) back_a30i0_0 (fun raw => by kernel_rfl) 10 (fun c w => by kernel_rfl) (round_a30i0_0 fu)
theorem lpok_a30i0 (fu : Nat) : LpOk E (pc_a30 fu) 1 msk_a30i0 (lp_a30i0 fu) (loops 0 body_a30i0) := lp_all (loop_all 1 (by kernel_rfl) fun i hi => match i, hi with
 | 0, _ => by
  have h : (loops 0 body_a30i0).getD 0 (0, .skip) = (0, lc_a30i0_0) := by kernel_rfl
  rw [h]; exact lpok_a30i0_0 fu
 | i + 1, hi => absurd hi (by omega)) (site_cons 49 Try.f49 (by kernel_rfl) (by kernel_rfl) (by kernel_rfl) (by kernel_rfl) ((lpok_a30i0i0 fu).mono (Nat.le_of_ble_eq_true (by kernel_rfl))) site_nil) (by kernel_rfl)
theorem lpok_a30 (fu : Nat) : LpOk E (pc_a30 fu) 2 msk_a30 (lp_a30 fu) (loops 0 body_a30) := lp_all (loop_nil (by kernel_rfl)) (site_cons 33 Try.f33 (by kernel_rfl) (by kernel_rfl) (by kernel_rfl) (by kernel_rfl) ((lpok_a30i0 fu).mono (Nat.le_of_ble_eq_true (by kernel_rfl))) site_nil) (by kernel_rfl)
def S_a30 (fu : Nat) (xs : List (D RT den)) (ins : List (Ob RT den)) : Option (OutX RT den) := match xs, ins with | [.agg [.int .i64 a0_1, .int .i64 a0_2, .int .i64 a0_3, .int .i64 a0_4, .rs za0_5 .impl_Entry na0_5 fa0_5, .int .i64 a0_6, .int .i64 a0_7, .rs za0_8 .i64 na0_8 fa0_8, .rs za0_9 .i64 na0_9 fa0_9, .rs za0_10 .i64 na0_10 fa0_10]], [] => some ⟨Yb2, F_impl_TimeoutNode_U fu (⟨a0_1, a0_2, a0_3, a0_4, (⟨za0_5, na0_5, fa0_5⟩ : (Sl S_impl_Entry)), a0_6, a0_7, (⟨za0_8, na0_8, fa0_8⟩ : (Sl Int)), (⟨za0_9, na0_9, fa0_9⟩ : (Sl Int)), (⟨za0_10, na0_10, fa0_10⟩ : (Sl Int))⟩ : S_impl_Node), enc_a30⟩ | _, _ => none
theorem hpc_a30 (fu : Nat) : HpcOk E Try.prog (pcf_a30 fu) := by
 intro f xs o h
 unfold pcf_a30 at h
 split at h
 ·exact good_a29 fu xs o h
 ·exact good_a21 fu xs o h
 ·exact good_a7 fu xs o h
 ·exact good_a3 fu xs o h
 ·cases h
theorem hpx_a30 (fu : Nat) : HpxOk E Try.prog pcd_a30 (pcx_a30 fu) := by
 intro f xs ins o h
 unfold pcx_a30 at h
 split at h
 ·exact good_a2 fu xs ins o h
 ·exact good_a9 fu xs ins o h
 ·cases h
theorem goodv_a30 (fu : Nat) (n_0 : S_impl_Node) (y : Yb2) (hy : F_impl_TimeoutNode_U fu n_0 = some y) : GoodD E Try.prog 16 [(.agg [(ii n_0.Id), (ii n_0.Peers), (ii n_0.Term), (ii n_0.Voted), (.rs n_0.Log.z .impl_Entry n_0.Log.n n_0.Log.f), (ii n_0.Role), (ii n_0.Commit), (.rs n_0.Votes.z .i64 n_0.Votes.n n_0.Votes.f), (.rs n_0.Next.z .i64 n_0.Next.n n_0.Next.f), (.rs n_0.Match.z .i64 n_0.Match.n n_0.Match.f)])] [] (enc_a30 y).1 (enc_a30 y).2 :=
 funU_good E_ok (pc_good (pc := pc_a30 fu) (hpc_a30 fu) (hpx_a30 fu)) (fn := Try.f16) (by kernel_rfl) (by kernel_rfl) (by kernel_rfl) (lpok_a30 fu) (by kernel_rfl) (Nat.le_of_ble_eq_true (by kernel_rfl)) (Fulls.get 0 (And.intro (Nat.le_refl _) trivial)) (fun d os hd => out_a30_enc d os _ hd) ((ev_a30 fu n_0).trans hy)
theorem good_a30 (fu : Nat) : GoodSD E Try.prog 16 (S_a30 fu) := by
 intro xs ins o h y hy
 unfold S_a30 at h
 split at h
 ·rename_i a0_1 a0_2 a0_3 a0_4 za0_5 na0_5 fa0_5 a0_6 a0_7 za0_8 na0_8 fa0_8 za0_9 na0_9 fa0_9 za0_10 na0_10 fa0_10
  cases h
  exact goodv_a30 fu (⟨a0_1, a0_2, a0_3, a0_4, (⟨za0_5, na0_5, fa0_5⟩ : (Sl S_impl_Entry)), a0_6, a0_7, (⟨za0_8, na0_8, fa0_8⟩ : (Sl Int)), (⟨za0_9, na0_9, fa0_9⟩ : (Sl Int)), (⟨za0_10, na0_10, fa0_10⟩ : (Sl Int))⟩ : S_impl_Node) y hy
 ·cases h
def F_spec_l1In (fu : Nat) (v_0 low_1 high_2 : Int) : Option (Bool) :=
 (((bif (decide (v_0 ≥ low_1)) then (some (decide (v_0 ≤ high_2))) else (some false)) : Option Bool).bind fun m172 => (some m172))
def pc_a31 (fu : Nat) : Pc RT den := ⟨pcf0, fun _ => false, fun _ => false, pcd0, pcd0, pcx0⟩
def msk_a31 (b : Nat) : List Nat := match b with | 200001 => [6] | _ => []
def lp_a31 (fu : Nat) : Lp RT den (Bool) := ⟨fun b s k => none, inl0⟩
theorem ev_a31 (fu : Nat) (v_0 low_1 high_2 : Int) : evFun E (pc_a31 fu) msk_a31 (lp_a31 fu) out_bo 69 [(ii v_0), (ii low_1), (ii high_2)] = F_spec_l1In fu v_0 low_1 high_2 := by kernel_rfl
noncomputable def body_a31 : Code := Try.f69.body.getD .skip
theorem lpok_a31 (fu : Nat) : LpOk E (pc_a31 fu) 0 msk_a31 (lp_a31 fu) (loops 0 body_a31) := lp_nil (loop_nil (by kernel_rfl)) (by kernel_rfl)
def S_a31 (fu : Nat) (xs : List (D RT den)) : Option (Out RT den) := match xs with | [.int .i64 a0_0, .int .i64 a1_0, .int .i64 a2_0] => some ⟨Bool, F_spec_l1In fu a0_0 a1_0 a2_0, enc_bo, fun _ => true⟩ | _ => none
theorem goodv_a31 (fu : Nat) (v_0 low_1 high_2 : Int) (y : Bool) (hy : F_spec_l1In fu v_0 low_1 high_2 = some y) : Good E Try.prog 69 [(ii v_0), (ii low_1), (ii high_2)] (enc_bo y) :=
 fun_good E_ok (pc_good (pc := pc_a31 fu) hpc0 hpx0) (fn := Try.f69) (by kernel_rfl) (by kernel_rfl) (by kernel_rfl) (lpok_a31 fu) (fun d hd => out_bo_enc d _ hd) ((ev_a31 fu v_0 low_1 high_2).trans hy)
theorem good_a31 (fu : Nat) : GoodS E Try.prog 69 (S_a31 fu) := by
 intro xs o h y hy
 unfold S_a31 at h
 split at h
 ·rename_i a0_0 a1_0 a2_0
  cases h
  exact goodv_a31 fu a0_0 a1_0 a2_0 y hy
 ·cases h
end Go.Proofs.Ytjdgfkmiaikegaa.Pe
