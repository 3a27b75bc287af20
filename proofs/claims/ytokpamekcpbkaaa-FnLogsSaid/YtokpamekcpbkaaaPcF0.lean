/- The functions' evaluated forms, each a proved summary. Conditions: none. -/
import Derived.Test.YtokpamekcpbkaaaPcT
namespace Go.Proofs.Ytokpamekcpbkaaa.Pc
open Go Go.RowKit Go.Proofs Vm
set_option linter.unusedVariables false
set_option linter.unusedSimpArgs false
set_option maxRecDepth 100000
/-! slices.Clone[[]impl.Entry,impl.Entry] -/
def F_slices_Clone_impl_Entry_impl_Entry_H_raw (fu : Nat) (s_0 : (Sl S_impl_Entry)) : Option ((Sl S_impl_Entry)) :=
  ((s_0.z).bind fun b13 => (bif b13 then (some (⟨(some true), 0, (fun _ => dflt .impl_Entry)⟩ : (Sl S_impl_Entry))) else (bif (decide (s_0.n ≤ 9223372036854775807) && decide (s_0.n * 72 ≤ 140737488355328)) then
    (some (⟨none, s_0.n, s_0.f⟩ : (Sl S_impl_Entry))) else none)))
def pcf_slices_Clone_impl_Entry_impl_Entry_H_raw (fu : Nat) (f : Nat) (xs : List (D RT den)) : Option (Out RT den) := none
def pcx_slices_Clone_impl_Entry_impl_Entry_H_raw (fu : Nat) (f : Nat) (xs : List (D RT den)) (ins : List (Ob RT den)) : Option (OutX RT den) := none
def pc_slices_Clone_impl_Entry_impl_Entry_H_raw (fu : Nat) : Pc RT den := ⟨pcf_slices_Clone_impl_Entry_impl_Entry_H_raw fu, fun _ => false, fun _ => false, pcx_slices_Clone_impl_Entry_impl_Entry_H_raw fu⟩
def msk_slices_Clone_impl_Entry_impl_Entry_H_raw (b : Nat) : List Nat := []
def lp_slices_Clone_impl_Entry_impl_Entry_H_raw (fu : Nat) : Lp RT den ((Sl S_impl_Entry)) := fun b s k => none
theorem ev_slices_Clone_impl_Entry_impl_Entry_H_raw (fu : Nat) (s_0 : (Sl S_impl_Entry)) : evFunX E false (pc_slices_Clone_impl_Entry_impl_Entry_H_raw fu) msk_slices_Clone_impl_Entry_impl_Entry_H_raw (lp_slices_Clone_impl_Entry_impl_Entry_H_raw fu) out_sl_impl_Entry_H 50 [(.rs s_0.z .impl_Entry s_0.n s_0.f)] [] = F_slices_Clone_impl_Entry_impl_Entry_H_raw fu s_0 := by kernel_rfl
noncomputable def body_slices_Clone_impl_Entry_impl_Entry_H_raw : Code := Try.f50.body.getD .skip
theorem lpok_slices_Clone_impl_Entry_impl_Entry_H_raw (fu : Nat) : LpOk E (pc_slices_Clone_impl_Entry_impl_Entry_H_raw fu) msk_slices_Clone_impl_Entry_impl_Entry_H_raw (lp_slices_Clone_impl_Entry_impl_Entry_H_raw fu) (loops 0 body_slices_Clone_impl_Entry_impl_Entry_H_raw) := by
  have h : loops 0 body_slices_Clone_impl_Entry_impl_Entry_H_raw = [] := by kernel_rfl
  rw [h]; intro p hp; cases hp
def S_slices_Clone_impl_Entry_impl_Entry_H_raw (fu : Nat) (xs : List (D RT den)) (ins : List (Ob RT den)) : Option (OutX RT den) := match xs, ins with | [.rs za0_0 .impl_Entry na0_0 fa0_0], [] => some ⟨(Sl S_impl_Entry), F_slices_Clone_impl_Entry_impl_Entry_H_raw fu (⟨za0_0, na0_0, fa0_0⟩ : (Sl S_impl_Entry)), enc_sl_impl_Entry_H⟩ | _, _ => none
theorem hpc_slices_Clone_impl_Entry_impl_Entry_H_raw (fu : Nat) : ∀ f xs o, pcf_slices_Clone_impl_Entry_impl_Entry_H_raw fu f xs = some o → ∀ y, o.x = some y → Good E Try.prog f xs (o.g y) := by
  intro f xs o h
  cases h
theorem hpx_slices_Clone_impl_Entry_impl_Entry_H_raw (fu : Nat) : ∀ f xs ins o, pcx_slices_Clone_impl_Entry_impl_Entry_H_raw fu f xs ins = some o → ∀ y, o.x = some y → GoodX E Try.prog f xs ins (o.g y).1 (o.g y).2 := by
  intro f xs ins o h
  cases h
theorem goodv_slices_Clone_impl_Entry_impl_Entry_H_raw (fu : Nat) (s_0 : (Sl S_impl_Entry)) (y : (Sl S_impl_Entry)) (hy : F_slices_Clone_impl_Entry_impl_Entry_H_raw fu s_0 = some y) : GoodX E Try.prog 50 [(.rs s_0.z .impl_Entry s_0.n s_0.f)] [] (enc_sl_impl_Entry_H y).1 (enc_sl_impl_Entry_H y).2 :=
  funX_good (ke := false) E_ok (pc_good (pc := pc_slices_Clone_impl_Entry_impl_Entry_H_raw fu) (hpc_slices_Clone_impl_Entry_impl_Entry_H_raw fu) (hpx_slices_Clone_impl_Entry_impl_Entry_H_raw fu)) (fn := Try.f50) (c := body_slices_Clone_impl_Entry_impl_Entry_H_raw) (out := out_sl_impl_Entry_H) (y := y) (by kernel_rfl) (by kernel_rfl) (by kernel_rfl) (lpok_slices_Clone_impl_Entry_impl_Entry_H_raw fu) (by kernel_rfl) (Nat.zero_le _) (fun d os hd => out_sl_impl_Entry_H_enc d os _ hd) ((ev_slices_Clone_impl_Entry_impl_Entry_H_raw fu s_0).trans hy)
def F_slices_Clone_impl_Entry_impl_Entry_H (fu : Nat) (s_0 : (Sl S_impl_Entry)) : Option ((Sl S_impl_Entry)) := bif decide (s_0.n ≤ 9223372036854775807) && decide (s_0.n * 72 ≤ 140737488355328) then some ⟨none, s_0.n, s_0.f⟩ else none
def S_slices_Clone_impl_Entry_impl_Entry_H (fu : Nat) (xs : List (D RT den)) (ins : List (Ob RT den)) : Option (OutX RT den) := match xs, ins with | [.rs za0_0 .impl_Entry na0_0 fa0_0], [] => some ⟨(Sl S_impl_Entry), F_slices_Clone_impl_Entry_impl_Entry_H fu (⟨za0_0, na0_0, fa0_0⟩ : (Sl S_impl_Entry)), enc_sl_impl_Entry_H⟩ | _, _ => none
theorem good_slices_Clone_impl_Entry_impl_Entry_H (fu : Nat) : ∀ xs ins o, S_slices_Clone_impl_Entry_impl_Entry_H fu xs ins = some o → ∀ y, o.x = some y → GoodX E Try.prog 50 xs ins (o.g y).1 (o.g y).2 := by
  intro xs ins o h y hy
  unfold S_slices_Clone_impl_Entry_impl_Entry_H at h
  split at h
  · rename_i za0_0 na0_0 fa0_0
    cases h
    have hy : F_slices_Clone_impl_Entry_impl_Entry_H fu ⟨za0_0, na0_0, fa0_0⟩ = some y := hy
    unfold F_slices_Clone_impl_Entry_impl_Entry_H at hy
    dsimp only at hy
    cases hc : (decide (na0_0 ≤ 9223372036854775807) && decide (na0_0 * 72 ≤ 140737488355328)) with
    | false => rw [hc] at hy; cases hy
    | true =>
      rw [hc] at hy
      have hy := Option.some.inj hy; subst hy
      refine GoodX.clone (d0 := fun _ => dflt .impl_Entry) (goodv_slices_Clone_impl_Entry_impl_Entry_H_raw fu ⟨some true, na0_0, fa0_0⟩ ⟨some true, 0, fun _ => dflt .impl_Entry⟩ rfl) (goodv_slices_Clone_impl_Entry_impl_Entry_H_raw fu ⟨some false, na0_0, fa0_0⟩ ⟨none, na0_0, fa0_0⟩ ?_) _
      unfold F_slices_Clone_impl_Entry_impl_Entry_H_raw
      simp only [Option.bind_some, cond_false, hc, cond_true]
  · cases h

/-! impl.size[impl.Entry] -/
def F_impl_size_impl_Entry (fu : Nat) (list_0 : (Sl S_impl_Entry)) : Option (Int) :=
  (some ((list_0.n : Nat) : Int))
def pcf_impl_size_impl_Entry (fu : Nat) (f : Nat) (xs : List (D RT den)) : Option (Out RT den) := none
def pcx_impl_size_impl_Entry (fu : Nat) (f : Nat) (xs : List (D RT den)) (ins : List (Ob RT den)) : Option (OutX RT den) := none
def pc_impl_size_impl_Entry (fu : Nat) : Pc RT den := ⟨pcf_impl_size_impl_Entry fu, fun _ => false, fun _ => false, pcx_impl_size_impl_Entry fu⟩
def msk_impl_size_impl_Entry (b : Nat) : List Nat := []
def lp_impl_size_impl_Entry (fu : Nat) : Lp RT den (Int) := fun b s k => none
theorem ev_impl_size_impl_Entry (fu : Nat) (list_0 : (Sl S_impl_Entry)) : evFun E (pc_impl_size_impl_Entry fu) msk_impl_size_impl_Entry (lp_impl_size_impl_Entry fu) out_i64 49 [(.rs list_0.z .impl_Entry list_0.n list_0.f)] = F_impl_size_impl_Entry fu list_0 := by kernel_rfl
noncomputable def body_impl_size_impl_Entry : Code := Try.f49.body.getD .skip
theorem lpok_impl_size_impl_Entry (fu : Nat) : LpOk E (pc_impl_size_impl_Entry fu) msk_impl_size_impl_Entry (lp_impl_size_impl_Entry fu) (loops 0 body_impl_size_impl_Entry) := by
  have h : loops 0 body_impl_size_impl_Entry = [] := by kernel_rfl
  rw [h]; intro p hp; cases hp
def S_impl_size_impl_Entry (fu : Nat) (xs : List (D RT den)) : Option (Out RT den) := match xs with | [.rs za0_0 .impl_Entry na0_0 fa0_0] => some ⟨Int, F_impl_size_impl_Entry fu (⟨za0_0, na0_0, fa0_0⟩ : (Sl S_impl_Entry)), enc_i64, fun _ => true⟩ | _ => none
theorem hpc_impl_size_impl_Entry (fu : Nat) : ∀ f xs o, pcf_impl_size_impl_Entry fu f xs = some o → ∀ y, o.x = some y → Good E Try.prog f xs (o.g y) := by
  intro f xs o h
  cases h
theorem hpx_impl_size_impl_Entry (fu : Nat) : ∀ f xs ins o, pcx_impl_size_impl_Entry fu f xs ins = some o → ∀ y, o.x = some y → GoodX E Try.prog f xs ins (o.g y).1 (o.g y).2 := by
  intro f xs ins o h
  cases h
theorem goodv_impl_size_impl_Entry (fu : Nat) (list_0 : (Sl S_impl_Entry)) (y : Int) (hy : F_impl_size_impl_Entry fu list_0 = some y) : Good E Try.prog 49 [(.rs list_0.z .impl_Entry list_0.n list_0.f)] (enc_i64 y) :=
  fun_good E_ok (pc_good (pc := pc_impl_size_impl_Entry fu) (hpc_impl_size_impl_Entry fu) (hpx_impl_size_impl_Entry fu)) (fn := Try.f49) (c := body_impl_size_impl_Entry) (out := out_i64) (y := y) (by kernel_rfl) (by kernel_rfl) (by kernel_rfl) (lpok_impl_size_impl_Entry fu) (fun d hd => out_i64_enc d _ hd) ((ev_impl_size_impl_Entry fu list_0).trans hy)
theorem good_impl_size_impl_Entry (fu : Nat) : ∀ xs o, S_impl_size_impl_Entry fu xs = some o → ∀ y, o.x = some y → Good E Try.prog 49 xs (o.g y) := by
  intro xs o h y hy
  unfold S_impl_size_impl_Entry at h
  split at h
  · rename_i za0_0 na0_0 fa0_0
    cases h
    exact goodv_impl_size_impl_Entry fu (⟨za0_0, na0_0, fa0_0⟩ : (Sl S_impl_Entry)) y hy
  · cases h

/-! impl.take -/
def F_impl_take_H_B0 {ρ : Type} (fu : Nat) (index1_0 : Int) (more2_1 : (Sl S_impl_Entry)) (out7_2 : Nat) (t13_3 : (Sl S_impl_Entry)) (t14_4 : Int) (o0_6 : Int) (on1_7 : Nat) (of1_8 : (Nat → S_impl_Entry)) (k0 : Nat → Nat → (Nat → S_impl_Entry) → Int → Int → Int → Int → Int → Int → Int → Int → Int → Option ρ) (k1 : Option ρ) (t15_5 : Int) (go : Int → Option ρ) : Option ρ :=
  (bif (decide (t15_5 < t14_4)) then ((bif (decide (0 ≤ t15_5) && decide ((Int.toNat t15_5) < t13_3.n)) then some () else none : Option Unit).bind fun _ =>
    ((((F_impl_size_impl_Entry fu (⟨none, out7_2, of1_8⟩ : (Sl S_impl_Entry))).bind fun y15 => (bif (decide ((IntKind.wrap .i64 (index1_0 + t15_5)) < y15)) then ((bif (decide (0 ≤ (IntKind.wrap .i64 (index1_0 + t15_5))) &&
    decide ((Int.toNat (IntKind.wrap .i64 (index1_0 + t15_5))) < out7_2)) then some () else none : Option Unit).bind fun _ => (some ((of1_8 (Int.toNat (IntKind.wrap .i64 (index1_0 + t15_5)))).Term == (t13_3.f (Int.toNat t15_5)).Term))) else
    (some false))) : Option Bool).bind fun m16 => (bif m16 then (go (IntKind.wrap .i64 (t15_5 + 1))) else ((bif (decide (0 ≤ (IntKind.wrap .i64 (index1_0 + t15_5))) && decide ((Int.toNat (IntKind.wrap .i64 (index1_0 + t15_5))) ≤ out7_2)) then
    some () else none : Option Unit).bind fun _ => ((bif (decide (0 ≤ t15_5) && (decide (t15_5 ≤ ((more2_1.n : Nat) : Int)) && decide (more2_1.n ≤ more2_1.n))) then some () else
    none : Option Unit).bind fun _ => (bif (decide (((Int.toNat (IntKind.wrap .i64 (index1_0 + t15_5))) + (more2_1.n - (Int.toNat t15_5))) ≤ 9223372036854775807) && decide (((Int.toNat (IntKind.wrap .i64 (index1_0 + t15_5))) + (more2_1.n - (Int.toNat t15_5))) * 72 ≤ 140737488355328)) then
    (k0 ((Int.toNat (IntKind.wrap .i64 (index1_0 + t15_5))) + (more2_1.n - (Int.toNat t15_5))) ((Int.toNat (IntKind.wrap .i64 (index1_0 + t15_5))) + (more2_1.n - (Int.toNat t15_5))) (fun i =>
    if i < (Int.toNat (IntKind.wrap .i64 (index1_0 + t15_5))) then (of1_8 i) else ((fun i => more2_1.f ((Int.toNat t15_5) + i)) (i - (Int.toNat (IntKind.wrap .i64 (index1_0 + t15_5)))))) (t13_3.f (Int.toNat t15_5)).Term (t13_3.f (Int.toNat t15_5)).Client (t13_3.f (Int.toNat t15_5)).Seq (t13_3.f (Int.toNat t15_5)).Cmd.Kind (t13_3.f (Int.toNat t15_5)).Cmd.Expect (t13_3.f (Int.toNat t15_5)).Cmd.Name (t13_3.f (Int.toNat t15_5)).Cmd.Addr (t13_3.f (Int.toNat t15_5)).Cmd.Number (t13_3.f (Int.toNat t15_5)).Cmd.Proto) else
    none)))))) else k1)
def F_impl_take_H (fu : Nat) (log_0 : (Sl S_impl_Entry)) (index_1 : Int) (more_2 : (Sl S_impl_Entry)) : Option (S_impl_EntriesResult) :=
  ((F_slices_Clone_impl_Entry_impl_Entry_H fu log_0).bind fun y14 => (L (fun w0 go0 => F_impl_take_H_B0 fu index_1 more_2 y14.n more_2 ((more_2.n : Nat) : Int) 0 y14.n y14.f (fun z17 z18 z19 z20 z21 z22 z23 z24 z25 z26 z27 z28 =>
    (bif (decide (((z17 : Nat) : Int) > 40)) then (some (⟨2, (⟨(some true), 0, (fun _ => dflt .impl_Entry)⟩ : (Sl S_impl_Entry))⟩ : S_impl_EntriesResult)) else (some (⟨0, (⟨none,
    z17, z19⟩ : (Sl S_impl_Entry))⟩ : S_impl_EntriesResult)))) (bif (decide (((y14.n : Nat) : Int) > 40)) then (some (⟨2, (⟨(some true), 0, (fun _ => dflt .impl_Entry)⟩ : (Sl S_impl_Entry))⟩ : S_impl_EntriesResult)) else
    (some (⟨0, (⟨none, y14.n, y14.f⟩ : (Sl S_impl_Entry))⟩ : S_impl_EntriesResult))) w0 go0) fu (0 : Int)))
def pcf_impl_take_H (fu : Nat) (f : Nat) (xs : List (D RT den)) : Option (Out RT den) := match f with | 49 => S_impl_size_impl_Entry fu xs | _ => none
def pcx_impl_take_H (fu : Nat) (f : Nat) (xs : List (D RT den)) (ins : List (Ob RT den)) : Option (OutX RT den) := match f with | 50 => S_slices_Clone_impl_Entry_impl_Entry_H fu xs ins | _ => none
def pc_impl_take_H (fu : Nat) : Pc RT den := ⟨pcf_impl_take_H fu, fun f => match f with | 50 => true | _ => false, fun _ => false, pcx_impl_take_H fu⟩
def msk_impl_take_H (b : Nat) : List Nat := match b with | 0 => [0, 3, 4, 5, 8, 9, 10, 11, 12, 16, 17, 18, 19, 20, 21, 22, 23, 24, 25, 26, 27, 28, 29, 30, 31, 32, 33, 34, 35, 36, 37, 38, 39, 40, 41, 42, 43, 44, 45, 46, 47, 48, 49, 50] | 100000 => [0, 1, 2, 3, 4, 5, 8, 9, 10, 11, 12, 13, 14, 15, 16, 17, 18, 19, 20, 21, 22, 23, 24, 25, 26, 27, 28, 29, 30, 31, 32, 33, 34, 35, 36, 37, 38, 39, 40, 41, 42, 43, 44, 45, 46, 47, 48, 49, 50] | 200006 => [36] | 300000 => [7] | _ => []
def ps_impl_take_H_0 : List (Pat RT) := [.flat .dead, .flat (.int .i64), .flat (.rs .impl_Entry), .flat .dead, .flat .dead, .flat .dead, .flat (.ref 0 0), .flat (.os 1), .flat .dead, .flat .dead, .flat .dead, .flat .dead, .flat .dead, .flat (.rs .impl_Entry), .flat (.int .i64), .flat (.int .i64), .flat .dead, .flat .dead, .flat .dead, .flat .dead, .flat .dead, .flat .dead, .flat .dead, .flat .dead, .flat .dead, .flat .dead, .flat .dead, .flat .dead, .flat .dead, .flat .dead, .flat .dead, .flat .dead, .flat .dead, .flat .dead, .flat .dead, .flat .dead, .flat .dead, .flat .dead, .flat .dead, .flat .dead, .flat .dead, .flat .dead, .flat .dead, .flat .dead, .flat .dead, .flat .dead, .flat .dead, .flat .dead, .flat .dead, .flat .dead, .flat .dead]
def os_impl_take_H_0 : List (OP RT) := [.box false [(.int .i64), (.emp true .impl_Entry)], .row false .impl_Entry]
def conv_impl_take_H_0 (r : Raw den ps_impl_take_H_0 os_impl_take_H_0) : (Int × (Sl S_impl_Entry) × Nat × (Sl S_impl_Entry) × Int × Int × Nat × (Nat → S_impl_Entry)) × (Int) := ((r.1.2.1, r.1.2.2.1, r.1.2.2.2.2.2.2.2.1, r.1.2.2.2.2.2.2.2.2.2.2.2.2.2.1, r.1.2.2.2.2.2.2.2.2.2.2.2.2.2.2.1, r.2.1.1, r.2.2.1.1, r.2.2.1.2), r.1.2.2.2.2.2.2.2.2.2.2.2.2.2.2.2.1)
def back_impl_take_H_0 (c : Int × (Sl S_impl_Entry) × Nat × (Sl S_impl_Entry) × Int × Int × Nat × (Nat → S_impl_Entry)) (w : Int) : St RT den := ⟨[.dead, (.int .i64 c.1), (.rs c.2.1.z .impl_Entry c.2.1.n c.2.1.f), .dead, .dead, .dead, (.ref 0 0), (.os 1 c.2.2.1), .dead, .dead, .dead, .dead, .dead, (.rs c.2.2.2.1.z .impl_Entry c.2.2.2.1.n c.2.2.2.1.f), (.int .i64 c.2.2.2.2.1), (.int .i64 w), .dead, .dead, .dead, .dead, .dead, .dead, .dead, .dead, .dead, .dead, .dead, .dead, .dead, .dead, .dead, .dead, .dead, .dead, .dead, .dead, .dead, .dead, .dead, .dead, .dead, .dead, .dead, .dead, .dead, .dead, .dead, .dead, .dead, .dead, .dead], [(.box false [(.int .i64 c.2.2.2.2.2.1), (.emp true .impl_Entry)]), (.row false .impl_Entry c.2.2.2.2.2.2.1 c.2.2.2.2.2.2.2)]⟩
def Bk_impl_take_H_0 {ρ : Type} (fu : Nat) (c : Int × (Sl S_impl_Entry) × Nat × (Sl S_impl_Entry) × Int × Int × Nat × (Nat → S_impl_Entry)) (k : Ex → St RT den → Option ρ) (w : Int) (go : (Int) → Option ρ) : Option ρ := F_impl_take_H_B0 fu c.1 c.2.1 c.2.2.1 c.2.2.2.1 c.2.2.2.2.1 c.2.2.2.2.2.1 c.2.2.2.2.2.2.1 c.2.2.2.2.2.2.2 (fun a0 a1 a2 a3 a4 a5 a6 a7 a8 a9 a10 a11 => k (.exit 0) ⟨[.dead, .dead, .dead, .dead, .dead, .dead, (.ref 0 0), (.os 1 a0), .dead, .dead, .dead, .dead, .dead, .dead, .dead, .dead, .dead, .dead, .dead, .dead, .dead, .dead, .dead, .dead, .dead, .dead, .dead, .dead, .dead, .dead, .dead, .dead, .dead, .dead, .dead, .dead, .dead, .dead, .dead, .dead, .dead, .dead, .dead, .dead, .dead, .dead, .dead, .dead, .dead, .dead, .dead], [(.box false [(.int .i64 c.2.2.2.2.2.1), (.emp true .impl_Entry)]), (.row false .impl_Entry a1 a2), (.box false [(.int .i64 a3), (.int .i64 a4), (.int .i64 a5), (.int .i64 a6), (.int .i64 a7), (.int .i64 a8), (.int .i64 a9), (.int .i64 a10), (.int .i64 a11)])]⟩) (k (.exit 0) ⟨[.dead, .dead, .dead, .dead, .dead, .dead, (.ref 0 0), (.os 1 c.2.2.1), .dead, .dead, .dead, .dead, .dead, .dead, .dead, .dead, .dead, .dead, .dead, .dead, .dead, .dead, .dead, .dead, .dead, .dead, .dead, .dead, .dead, .dead, .dead, .dead, .dead, .dead, .dead, .dead, .dead, .dead, .dead, .dead, .dead, .dead, .dead, .dead, .dead, .dead, .dead, .dead, .dead, .dead, .dead], [(.box false [(.int .i64 c.2.2.2.2.2.1), (.emp true .impl_Entry)]), (.row false .impl_Entry c.2.2.2.2.2.2.1 c.2.2.2.2.2.2.2)]⟩) w go
def lp_impl_take_H (fu : Nat) : Lp RT den (S_impl_EntriesResult) := fun b s k => match b with | 0 => handle ps_impl_take_H_0 os_impl_take_H_0 conv_impl_take_H_0 (Bk_impl_take_H_0 fu) fu s k | _ => none
theorem ev_impl_take_H (fu : Nat) (log_0 : (Sl S_impl_Entry)) (index_1 : Int) (more_2 : (Sl S_impl_Entry)) : evFunX E false (pc_impl_take_H fu) msk_impl_take_H (lp_impl_take_H fu) out_impl_EntriesResult_H 35 [(.rs log_0.z .impl_Entry log_0.n log_0.f), (.int .i64 index_1), (.rs more_2.z .impl_Entry more_2.n more_2.f)] [] = F_impl_take_H fu log_0 index_1 more_2 := by kernel_rfl
noncomputable def body_impl_take_H : Code := Try.f35.body.getD .skip
noncomputable def lc_impl_take_H_0 : Code := ((loops 0 body_impl_take_H).getD 0 (0, .skip)).2
theorem round_impl_take_H_0 (fu : Nat) (it : St RT den → Option (S_impl_EntriesResult)) (k : Ex → St RT den → Option (S_impl_EntriesResult)) c w : evCode E (pc_impl_take_H fu) msk_impl_take_H (lp_impl_take_H fu) 0 lc_impl_take_H_0 (back_impl_take_H_0 c w) (after (msk_impl_take_H 0) (msk_impl_take_H 100000) 2 it k) = Bk_impl_take_H_0 fu c k w (fun w => it (back_impl_take_H_0 c w)) := by kernel_rfl
theorem lpok_impl_take_H_0 (fu : Nat) : ∀ s k r, lp_impl_take_H fu 0 s k = some r → ∃ fuel, iter (msk_impl_take_H 0) (msk_impl_take_H 100000) s.objs.length (evCode E (pc_impl_take_H fu) msk_impl_take_H (lp_impl_take_H fu) 0 lc_impl_take_H_0) fuel s k = some r :=
  handle_ok (ps := ps_impl_take_H_0) (os := os_impl_take_H_0) (conv := conv_impl_take_H_0) (B := Bk_impl_take_H_0 fu) (fu := fu) back_impl_take_H_0 (fun raw => by kernel_rfl) 2 (fun c w => by kernel_rfl) (round_impl_take_H_0 fu)
theorem lpok_impl_take_H (fu : Nat) : LpOk E (pc_impl_take_H fu) msk_impl_take_H (lp_impl_take_H fu) (loops 0 body_impl_take_H) := loop_all 1 (by kernel_rfl) fun i hi => match i, hi with
  | 0, _ => by
    have h : (loops 0 body_impl_take_H).getD 0 (0, .skip) = (0, lc_impl_take_H_0) := by kernel_rfl
    rw [h]; exact lpok_impl_take_H_0 fu
  | i + 1, hi => absurd hi (by omega)
def S_impl_take_H (fu : Nat) (xs : List (D RT den)) (ins : List (Ob RT den)) : Option (OutX RT den) := match xs, ins with | [.rs za0_0 .impl_Entry na0_0 fa0_0, .int .i64 a1_0, .rs za2_0 .impl_Entry na2_0 fa2_0], [] => some ⟨S_impl_EntriesResult, F_impl_take_H fu (⟨za0_0, na0_0, fa0_0⟩ : (Sl S_impl_Entry)) a1_0 (⟨za2_0, na2_0, fa2_0⟩ : (Sl S_impl_Entry)), enc_impl_EntriesResult_H⟩ | _, _ => none
theorem hpc_impl_take_H (fu : Nat) : ∀ f xs o, pcf_impl_take_H fu f xs = some o → ∀ y, o.x = some y → Good E Try.prog f xs (o.g y) := by
  intro f xs o h
  unfold pcf_impl_take_H at h
  split at h
  · exact good_impl_size_impl_Entry fu xs o h
  · cases h
theorem hpx_impl_take_H (fu : Nat) : ∀ f xs ins o, pcx_impl_take_H fu f xs ins = some o → ∀ y, o.x = some y → GoodX E Try.prog f xs ins (o.g y).1 (o.g y).2 := by
  intro f xs ins o h
  unfold pcx_impl_take_H at h
  split at h
  · exact good_slices_Clone_impl_Entry_impl_Entry_H fu xs ins o h
  · cases h
theorem goodv_impl_take_H (fu : Nat) (log_0 : (Sl S_impl_Entry)) (index_1 : Int) (more_2 : (Sl S_impl_Entry)) (y : S_impl_EntriesResult) (hy : F_impl_take_H fu log_0 index_1 more_2 = some y) : GoodX E Try.prog 35 [(.rs log_0.z .impl_Entry log_0.n log_0.f), (.int .i64 index_1), (.rs more_2.z .impl_Entry more_2.n more_2.f)] [] (enc_impl_EntriesResult_H y).1 (enc_impl_EntriesResult_H y).2 :=
  funX_good (ke := false) E_ok (pc_good (pc := pc_impl_take_H fu) (hpc_impl_take_H fu) (hpx_impl_take_H fu)) (fn := Try.f35) (c := body_impl_take_H) (out := out_impl_EntriesResult_H) (y := y) (by kernel_rfl) (by kernel_rfl) (by kernel_rfl) (lpok_impl_take_H fu) (by kernel_rfl) (Nat.zero_le _) (fun d os hd => out_impl_EntriesResult_H_enc d os _ hd) ((ev_impl_take_H fu log_0 index_1 more_2).trans hy)
theorem good_impl_take_H (fu : Nat) : ∀ xs ins o, S_impl_take_H fu xs ins = some o → ∀ y, o.x = some y → GoodX E Try.prog 35 xs ins (o.g y).1 (o.g y).2 := by
  intro xs ins o h y hy
  unfold S_impl_take_H at h
  split at h
  · rename_i za0_0 na0_0 fa0_0 a1_0 za2_0 na2_0 fa2_0
    cases h
    exact goodv_impl_take_H fu (⟨za0_0, na0_0, fa0_0⟩ : (Sl S_impl_Entry)) a1_0 (⟨za2_0, na2_0, fa2_0⟩ : (Sl S_impl_Entry)) y hy
  · cases h

/-! impl.in -/
def F_impl_in (fu : Nat) (n_0 : Int) (low_1 : Int) (high_2 : Int) : Option (Bool) :=
  (((bif (decide (n_0 ≥ low_1)) then (some (decide (n_0 ≤ high_2))) else (some false)) : Option Bool).bind fun m58 => (some m58))
def pcf_impl_in (fu : Nat) (f : Nat) (xs : List (D RT den)) : Option (Out RT den) := none
def pcx_impl_in (fu : Nat) (f : Nat) (xs : List (D RT den)) (ins : List (Ob RT den)) : Option (OutX RT den) := none
def pc_impl_in (fu : Nat) : Pc RT den := ⟨pcf_impl_in fu, fun _ => false, fun _ => false, pcx_impl_in fu⟩
def msk_impl_in (b : Nat) : List Nat := match b with | 200001 => [6] | _ => []
def lp_impl_in (fu : Nat) : Lp RT den (Bool) := fun b s k => none
theorem ev_impl_in (fu : Nat) (n_0 : Int) (low_1 : Int) (high_2 : Int) : evFun E (pc_impl_in fu) msk_impl_in (lp_impl_in fu) out_bo 27 [(.int .i64 n_0), (.int .i64 low_1), (.int .i64 high_2)] = F_impl_in fu n_0 low_1 high_2 := by kernel_rfl
noncomputable def body_impl_in : Code := Try.f27.body.getD .skip
theorem lpok_impl_in (fu : Nat) : LpOk E (pc_impl_in fu) msk_impl_in (lp_impl_in fu) (loops 0 body_impl_in) := by
  have h : loops 0 body_impl_in = [] := by kernel_rfl
  rw [h]; intro p hp; cases hp
def S_impl_in (fu : Nat) (xs : List (D RT den)) : Option (Out RT den) := match xs with | [.int .i64 a0_0, .int .i64 a1_0, .int .i64 a2_0] => some ⟨Bool, F_impl_in fu a0_0 a1_0 a2_0, enc_bo, fun _ => true⟩ | _ => none
theorem hpc_impl_in (fu : Nat) : ∀ f xs o, pcf_impl_in fu f xs = some o → ∀ y, o.x = some y → Good E Try.prog f xs (o.g y) := by
  intro f xs o h
  cases h
theorem hpx_impl_in (fu : Nat) : ∀ f xs ins o, pcx_impl_in fu f xs ins = some o → ∀ y, o.x = some y → GoodX E Try.prog f xs ins (o.g y).1 (o.g y).2 := by
  intro f xs ins o h
  cases h
theorem goodv_impl_in (fu : Nat) (n_0 : Int) (low_1 : Int) (high_2 : Int) (y : Bool) (hy : F_impl_in fu n_0 low_1 high_2 = some y) : Good E Try.prog 27 [(.int .i64 n_0), (.int .i64 low_1), (.int .i64 high_2)] (enc_bo y) :=
  fun_good E_ok (pc_good (pc := pc_impl_in fu) (hpc_impl_in fu) (hpx_impl_in fu)) (fn := Try.f27) (c := body_impl_in) (out := out_bo) (y := y) (by kernel_rfl) (by kernel_rfl) (by kernel_rfl) (lpok_impl_in fu) (fun d hd => out_bo_enc d _ hd) ((ev_impl_in fu n_0 low_1 high_2).trans hy)
theorem good_impl_in (fu : Nat) : ∀ xs o, S_impl_in fu xs = some o → ∀ y, o.x = some y → Good E Try.prog 27 xs (o.g y) := by
  intro xs o h y hy
  unfold S_impl_in at h
  split at h
  · rename_i a0_0 a1_0 a2_0
    cases h
    exact goodv_impl_in fu a0_0 a1_0 a2_0 y hy
  · cases h

/-! impl.needs -/
def F_impl_needs (fu : Nat) (kind_0 : Int) : Option (Bool × Bool × Bool × Bool) :=
  ((F_impl_in fu kind_0 5 8).bind fun y79 => ((F_impl_in fu kind_0 5 6).bind fun y80 => (bif (kind_0 == 1) then (some ((!y80), true, (kind_0 != 4), y79)) else (some ((!y80), y79,
    (kind_0 != 4), y79)))))
def pcf_impl_needs (fu : Nat) (f : Nat) (xs : List (D RT den)) : Option (Out RT den) := match f with | 27 => S_impl_in fu xs | _ => none
def pcx_impl_needs (fu : Nat) (f : Nat) (xs : List (D RT den)) (ins : List (Ob RT den)) : Option (OutX RT den) := none
def pc_impl_needs (fu : Nat) : Pc RT den := ⟨pcf_impl_needs fu, fun _ => false, fun _ => false, pcx_impl_needs fu⟩
def msk_impl_needs (b : Nat) : List Nat := []
def lp_impl_needs (fu : Nat) : Lp RT den (Bool × Bool × Bool × Bool) := fun b s k => none
theorem ev_impl_needs (fu : Nat) (kind_0 : Int) : evFun E (pc_impl_needs fu) msk_impl_needs (lp_impl_needs fu) out_bo_bo_bo_bo 55 [(.int .i64 kind_0)] = F_impl_needs fu kind_0 := by kernel_rfl
noncomputable def body_impl_needs : Code := Try.f55.body.getD .skip
theorem lpok_impl_needs (fu : Nat) : LpOk E (pc_impl_needs fu) msk_impl_needs (lp_impl_needs fu) (loops 0 body_impl_needs) := by
  have h : loops 0 body_impl_needs = [] := by kernel_rfl
  rw [h]; intro p hp; cases hp
def S_impl_needs (fu : Nat) (xs : List (D RT den)) : Option (Out RT den) := match xs with | [.int .i64 a0_0] => some ⟨Bool × Bool × Bool × Bool, F_impl_needs fu a0_0, enc_bo_bo_bo_bo, fun _ => true⟩ | _ => none
theorem hpc_impl_needs (fu : Nat) : ∀ f xs o, pcf_impl_needs fu f xs = some o → ∀ y, o.x = some y → Good E Try.prog f xs (o.g y) := by
  intro f xs o h
  unfold pcf_impl_needs at h
  split at h
  · exact good_impl_in fu xs o h
  · cases h
theorem hpx_impl_needs (fu : Nat) : ∀ f xs ins o, pcx_impl_needs fu f xs ins = some o → ∀ y, o.x = some y → GoodX E Try.prog f xs ins (o.g y).1 (o.g y).2 := by
  intro f xs ins o h
  cases h
theorem goodv_impl_needs (fu : Nat) (kind_0 : Int) (y : Bool × Bool × Bool × Bool) (hy : F_impl_needs fu kind_0 = some y) : Good E Try.prog 55 [(.int .i64 kind_0)] (enc_bo_bo_bo_bo y) :=
  fun_good E_ok (pc_good (pc := pc_impl_needs fu) (hpc_impl_needs fu) (hpx_impl_needs fu)) (fn := Try.f55) (c := body_impl_needs) (out := out_bo_bo_bo_bo) (y := y) (by kernel_rfl) (by kernel_rfl) (by kernel_rfl) (lpok_impl_needs fu) (fun d hd => out_bo_bo_bo_bo_enc d _ hd) ((ev_impl_needs fu kind_0).trans hy)
theorem good_impl_needs (fu : Nat) : ∀ xs o, S_impl_needs fu xs = some o → ∀ y, o.x = some y → Good E Try.prog 55 xs (o.g y) := by
  intro xs o h y hy
  unfold S_impl_needs at h
  split at h
  · rename_i a0_0
    cases h
    exact goodv_impl_needs fu a0_0 y hy
  · cases h

/-! impl.isName -/
def F_impl_isName (fu : Nat) (name_0 : Int) : Option (Bool) :=
  ((F_impl_in fu name_0 1 999).bind fun y81 => (some y81))
def pcf_impl_isName (fu : Nat) (f : Nat) (xs : List (D RT den)) : Option (Out RT den) := match f with | 27 => S_impl_in fu xs | _ => none
def pcx_impl_isName (fu : Nat) (f : Nat) (xs : List (D RT den)) (ins : List (Ob RT den)) : Option (OutX RT den) := none
def pc_impl_isName (fu : Nat) : Pc RT den := ⟨pcf_impl_isName fu, fun _ => false, fun _ => false, pcx_impl_isName fu⟩
def msk_impl_isName (b : Nat) : List Nat := []
def lp_impl_isName (fu : Nat) : Lp RT den (Bool) := fun b s k => none
theorem ev_impl_isName (fu : Nat) (name_0 : Int) : evFun E (pc_impl_isName fu) msk_impl_isName (lp_impl_isName fu) out_bo 26 [(.int .i64 name_0)] = F_impl_isName fu name_0 := by kernel_rfl
noncomputable def body_impl_isName : Code := Try.f26.body.getD .skip
theorem lpok_impl_isName (fu : Nat) : LpOk E (pc_impl_isName fu) msk_impl_isName (lp_impl_isName fu) (loops 0 body_impl_isName) := by
  have h : loops 0 body_impl_isName = [] := by kernel_rfl
  rw [h]; intro p hp; cases hp
def S_impl_isName (fu : Nat) (xs : List (D RT den)) : Option (Out RT den) := match xs with | [.int .i64 a0_0] => some ⟨Bool, F_impl_isName fu a0_0, enc_bo, fun _ => true⟩ | _ => none
theorem hpc_impl_isName (fu : Nat) : ∀ f xs o, pcf_impl_isName fu f xs = some o → ∀ y, o.x = some y → Good E Try.prog f xs (o.g y) := by
  intro f xs o h
  unfold pcf_impl_isName at h
  split at h
  · exact good_impl_in fu xs o h
  · cases h
theorem hpx_impl_isName (fu : Nat) : ∀ f xs ins o, pcx_impl_isName fu f xs ins = some o → ∀ y, o.x = some y → GoodX E Try.prog f xs ins (o.g y).1 (o.g y).2 := by
  intro f xs ins o h
  cases h
theorem goodv_impl_isName (fu : Nat) (name_0 : Int) (y : Bool) (hy : F_impl_isName fu name_0 = some y) : Good E Try.prog 26 [(.int .i64 name_0)] (enc_bo y) :=
  fun_good E_ok (pc_good (pc := pc_impl_isName fu) (hpc_impl_isName fu) (hpx_impl_isName fu)) (fn := Try.f26) (c := body_impl_isName) (out := out_bo) (y := y) (by kernel_rfl) (by kernel_rfl) (by kernel_rfl) (lpok_impl_isName fu) (fun d hd => out_bo_enc d _ hd) ((ev_impl_isName fu name_0).trans hy)
theorem good_impl_isName (fu : Nat) : ∀ xs o, S_impl_isName fu xs = some o → ∀ y, o.x = some y → Good E Try.prog 26 xs (o.g y) := by
  intro xs o h y hy
  unfold S_impl_isName at h
  split at h
  · rename_i a0_0
    cases h
    exact goodv_impl_isName fu a0_0 y hy
  · cases h

/-! impl.isAddress -/
def F_impl_isAddress (fu : Nat) (a_0 : Int) : Option (Bool) :=
  ((F_impl_in fu a_0 0 4294967295).bind fun y82 => (some y82))
def pcf_impl_isAddress (fu : Nat) (f : Nat) (xs : List (D RT den)) : Option (Out RT den) := match f with | 27 => S_impl_in fu xs | _ => none
def pcx_impl_isAddress (fu : Nat) (f : Nat) (xs : List (D RT den)) (ins : List (Ob RT den)) : Option (OutX RT den) := none
def pc_impl_isAddress (fu : Nat) : Pc RT den := ⟨pcf_impl_isAddress fu, fun _ => false, fun _ => false, pcx_impl_isAddress fu⟩
def msk_impl_isAddress (b : Nat) : List Nat := []
def lp_impl_isAddress (fu : Nat) : Lp RT den (Bool) := fun b s k => none
theorem ev_impl_isAddress (fu : Nat) (a_0 : Int) : evFun E (pc_impl_isAddress fu) msk_impl_isAddress (lp_impl_isAddress fu) out_bo 56 [(.int .i64 a_0)] = F_impl_isAddress fu a_0 := by kernel_rfl
noncomputable def body_impl_isAddress : Code := Try.f56.body.getD .skip
theorem lpok_impl_isAddress (fu : Nat) : LpOk E (pc_impl_isAddress fu) msk_impl_isAddress (lp_impl_isAddress fu) (loops 0 body_impl_isAddress) := by
  have h : loops 0 body_impl_isAddress = [] := by kernel_rfl
  rw [h]; intro p hp; cases hp
def S_impl_isAddress (fu : Nat) (xs : List (D RT den)) : Option (Out RT den) := match xs with | [.int .i64 a0_0] => some ⟨Bool, F_impl_isAddress fu a0_0, enc_bo, fun _ => true⟩ | _ => none
theorem hpc_impl_isAddress (fu : Nat) : ∀ f xs o, pcf_impl_isAddress fu f xs = some o → ∀ y, o.x = some y → Good E Try.prog f xs (o.g y) := by
  intro f xs o h
  unfold pcf_impl_isAddress at h
  split at h
  · exact good_impl_in fu xs o h
  · cases h
theorem hpx_impl_isAddress (fu : Nat) : ∀ f xs ins o, pcx_impl_isAddress fu f xs ins = some o → ∀ y, o.x = some y → GoodX E Try.prog f xs ins (o.g y).1 (o.g y).2 := by
  intro f xs ins o h
  cases h
theorem goodv_impl_isAddress (fu : Nat) (a_0 : Int) (y : Bool) (hy : F_impl_isAddress fu a_0 = some y) : Good E Try.prog 56 [(.int .i64 a_0)] (enc_bo y) :=
  fun_good E_ok (pc_good (pc := pc_impl_isAddress fu) (hpc_impl_isAddress fu) (hpx_impl_isAddress fu)) (fn := Try.f56) (c := body_impl_isAddress) (out := out_bo) (y := y) (by kernel_rfl) (by kernel_rfl) (by kernel_rfl) (lpok_impl_isAddress fu) (fun d hd => out_bo_enc d _ hd) ((ev_impl_isAddress fu a_0).trans hy)
theorem good_impl_isAddress (fu : Nat) : ∀ xs o, S_impl_isAddress fu xs = some o → ∀ y, o.x = some y → Good E Try.prog 56 xs (o.g y) := by
  intro xs o h y hy
  unfold S_impl_isAddress at h
  split at h
  · rename_i a0_0
    cases h
    exact goodv_impl_isAddress fu a0_0 y hy
  · cases h

/-! impl.isPort -/
def F_impl_isPort (fu : Nat) (n_0 : Int) : Option (Bool) :=
  ((F_impl_in fu n_0 0 65535).bind fun y88 => (some y88))
def pcf_impl_isPort (fu : Nat) (f : Nat) (xs : List (D RT den)) : Option (Out RT den) := match f with | 27 => S_impl_in fu xs | _ => none
def pcx_impl_isPort (fu : Nat) (f : Nat) (xs : List (D RT den)) (ins : List (Ob RT den)) : Option (OutX RT den) := none
def pc_impl_isPort (fu : Nat) : Pc RT den := ⟨pcf_impl_isPort fu, fun _ => false, fun _ => false, pcx_impl_isPort fu⟩
def msk_impl_isPort (b : Nat) : List Nat := []
def lp_impl_isPort (fu : Nat) : Lp RT den (Bool) := fun b s k => none
theorem ev_impl_isPort (fu : Nat) (n_0 : Int) : evFun E (pc_impl_isPort fu) msk_impl_isPort (lp_impl_isPort fu) out_bo 63 [(.int .i64 n_0)] = F_impl_isPort fu n_0 := by kernel_rfl
noncomputable def body_impl_isPort : Code := Try.f63.body.getD .skip
theorem lpok_impl_isPort (fu : Nat) : LpOk E (pc_impl_isPort fu) msk_impl_isPort (lp_impl_isPort fu) (loops 0 body_impl_isPort) := by
  have h : loops 0 body_impl_isPort = [] := by kernel_rfl
  rw [h]; intro p hp; cases hp
def S_impl_isPort (fu : Nat) (xs : List (D RT den)) : Option (Out RT den) := match xs with | [.int .i64 a0_0] => some ⟨Bool, F_impl_isPort fu a0_0, enc_bo, fun _ => true⟩ | _ => none
theorem hpc_impl_isPort (fu : Nat) : ∀ f xs o, pcf_impl_isPort fu f xs = some o → ∀ y, o.x = some y → Good E Try.prog f xs (o.g y) := by
  intro f xs o h
  unfold pcf_impl_isPort at h
  split at h
  · exact good_impl_in fu xs o h
  · cases h
theorem hpx_impl_isPort (fu : Nat) : ∀ f xs ins o, pcx_impl_isPort fu f xs ins = some o → ∀ y, o.x = some y → GoodX E Try.prog f xs ins (o.g y).1 (o.g y).2 := by
  intro f xs ins o h
  cases h
theorem goodv_impl_isPort (fu : Nat) (n_0 : Int) (y : Bool) (hy : F_impl_isPort fu n_0 = some y) : Good E Try.prog 63 [(.int .i64 n_0)] (enc_bo y) :=
  fun_good E_ok (pc_good (pc := pc_impl_isPort fu) (hpc_impl_isPort fu) (hpx_impl_isPort fu)) (fn := Try.f63) (c := body_impl_isPort) (out := out_bo) (y := y) (by kernel_rfl) (by kernel_rfl) (by kernel_rfl) (lpok_impl_isPort fu) (fun d hd => out_bo_enc d _ hd) ((ev_impl_isPort fu n_0).trans hy)
theorem good_impl_isPort (fu : Nat) : ∀ xs o, S_impl_isPort fu xs = some o → ∀ y, o.x = some y → Good E Try.prog 63 xs (o.g y) := by
  intro xs o h y hy
  unfold S_impl_isPort at h
  split at h
  · rename_i a0_0
    cases h
    exact goodv_impl_isPort fu a0_0 y hy
  · cases h

/-! impl.isNumber -/
def F_impl_isNumber (fu : Nat) (x_0 : S_impl_Cmd) : Option (Bool) :=
  (bif (x_0.Kind == 1) then ((F_impl_in fu x_0.Number 0 9).bind fun y83 => (some y83)) else (bif (x_0.Kind == 2) then ((F_impl_in fu x_0.Number 0 9).bind fun y84 => (some y84)) else
    (bif (x_0.Kind == 3) then ((F_impl_in fu x_0.Number 1 3).bind fun y85 => (some y85)) else (bif (x_0.Kind == 9) then ((F_impl_in fu x_0.Number 0 1).bind fun y86 => (some y86)) else
    ((F_impl_isPort fu x_0.Number).bind fun y87 => (some y87))))))
def pcf_impl_isNumber (fu : Nat) (f : Nat) (xs : List (D RT den)) : Option (Out RT den) := match f with | 27 => S_impl_in fu xs | 63 => S_impl_isPort fu xs | _ => none
def pcx_impl_isNumber (fu : Nat) (f : Nat) (xs : List (D RT den)) (ins : List (Ob RT den)) : Option (OutX RT den) := none
def pc_impl_isNumber (fu : Nat) : Pc RT den := ⟨pcf_impl_isNumber fu, fun _ => false, fun _ => false, pcx_impl_isNumber fu⟩
def msk_impl_isNumber (b : Nat) : List Nat := []
def lp_impl_isNumber (fu : Nat) : Lp RT den (Bool) := fun b s k => none
theorem ev_impl_isNumber (fu : Nat) (x_0 : S_impl_Cmd) : evFun E (pc_impl_isNumber fu) msk_impl_isNumber (lp_impl_isNumber fu) out_bo 57 [(.agg [(.int .i64 x_0.Kind), (.int .i64 x_0.Expect), (.int .i64 x_0.Name), (.int .i64 x_0.Addr), (.int .i64 x_0.Number), (.int .i64 x_0.Proto)])] = F_impl_isNumber fu x_0 := by kernel_rfl
noncomputable def body_impl_isNumber : Code := Try.f57.body.getD .skip
theorem lpok_impl_isNumber (fu : Nat) : LpOk E (pc_impl_isNumber fu) msk_impl_isNumber (lp_impl_isNumber fu) (loops 0 body_impl_isNumber) := by
  have h : loops 0 body_impl_isNumber = [] := by kernel_rfl
  rw [h]; intro p hp; cases hp
def S_impl_isNumber (fu : Nat) (xs : List (D RT den)) : Option (Out RT den) := match xs with | [.agg [.int .i64 a0_1, .int .i64 a0_2, .int .i64 a0_3, .int .i64 a0_4, .int .i64 a0_5, .int .i64 a0_6]] => some ⟨Bool, F_impl_isNumber fu (⟨a0_1, a0_2, a0_3, a0_4, a0_5, a0_6⟩ : S_impl_Cmd), enc_bo, fun _ => true⟩ | _ => none
theorem hpc_impl_isNumber (fu : Nat) : ∀ f xs o, pcf_impl_isNumber fu f xs = some o → ∀ y, o.x = some y → Good E Try.prog f xs (o.g y) := by
  intro f xs o h
  unfold pcf_impl_isNumber at h
  split at h
  · exact good_impl_in fu xs o h
  · exact good_impl_isPort fu xs o h
  · cases h
theorem hpx_impl_isNumber (fu : Nat) : ∀ f xs ins o, pcx_impl_isNumber fu f xs ins = some o → ∀ y, o.x = some y → GoodX E Try.prog f xs ins (o.g y).1 (o.g y).2 := by
  intro f xs ins o h
  cases h
theorem goodv_impl_isNumber (fu : Nat) (x_0 : S_impl_Cmd) (y : Bool) (hy : F_impl_isNumber fu x_0 = some y) : Good E Try.prog 57 [(.agg [(.int .i64 x_0.Kind), (.int .i64 x_0.Expect), (.int .i64 x_0.Name), (.int .i64 x_0.Addr), (.int .i64 x_0.Number), (.int .i64 x_0.Proto)])] (enc_bo y) :=
  fun_good E_ok (pc_good (pc := pc_impl_isNumber fu) (hpc_impl_isNumber fu) (hpx_impl_isNumber fu)) (fn := Try.f57) (c := body_impl_isNumber) (out := out_bo) (y := y) (by kernel_rfl) (by kernel_rfl) (by kernel_rfl) (lpok_impl_isNumber fu) (fun d hd => out_bo_enc d _ hd) ((ev_impl_isNumber fu x_0).trans hy)
theorem good_impl_isNumber (fu : Nat) : ∀ xs o, S_impl_isNumber fu xs = some o → ∀ y, o.x = some y → Good E Try.prog 57 xs (o.g y) := by
  intro xs o h y hy
  unfold S_impl_isNumber at h
  split at h
  · rename_i a0_1 a0_2 a0_3 a0_4 a0_5 a0_6
    cases h
    exact goodv_impl_isNumber fu (⟨a0_1, a0_2, a0_3, a0_4, a0_5, a0_6⟩ : S_impl_Cmd) y hy
  · cases h

/-! impl.isProto -/
def F_impl_isProto (fu : Nat) (n_0 : Int) : Option (Bool) :=
  (((bif (n_0 == 6) then (some true) else (some (n_0 == 17))) : Option Bool).bind fun m89 => (some m89))
def pcf_impl_isProto (fu : Nat) (f : Nat) (xs : List (D RT den)) : Option (Out RT den) := none
def pcx_impl_isProto (fu : Nat) (f : Nat) (xs : List (D RT den)) (ins : List (Ob RT den)) : Option (OutX RT den) := none
def pc_impl_isProto (fu : Nat) : Pc RT den := ⟨pcf_impl_isProto fu, fun _ => false, fun _ => false, pcx_impl_isProto fu⟩
def msk_impl_isProto (b : Nat) : List Nat := match b with | 200001 => [2] | _ => []
def lp_impl_isProto (fu : Nat) : Lp RT den (Bool) := fun b s k => none
theorem ev_impl_isProto (fu : Nat) (n_0 : Int) : evFun E (pc_impl_isProto fu) msk_impl_isProto (lp_impl_isProto fu) out_bo 58 [(.int .i64 n_0)] = F_impl_isProto fu n_0 := by kernel_rfl
noncomputable def body_impl_isProto : Code := Try.f58.body.getD .skip
theorem lpok_impl_isProto (fu : Nat) : LpOk E (pc_impl_isProto fu) msk_impl_isProto (lp_impl_isProto fu) (loops 0 body_impl_isProto) := by
  have h : loops 0 body_impl_isProto = [] := by kernel_rfl
  rw [h]; intro p hp; cases hp
def S_impl_isProto (fu : Nat) (xs : List (D RT den)) : Option (Out RT den) := match xs with | [.int .i64 a0_0] => some ⟨Bool, F_impl_isProto fu a0_0, enc_bo, fun _ => true⟩ | _ => none
theorem hpc_impl_isProto (fu : Nat) : ∀ f xs o, pcf_impl_isProto fu f xs = some o → ∀ y, o.x = some y → Good E Try.prog f xs (o.g y) := by
  intro f xs o h
  cases h
theorem hpx_impl_isProto (fu : Nat) : ∀ f xs ins o, pcx_impl_isProto fu f xs ins = some o → ∀ y, o.x = some y → GoodX E Try.prog f xs ins (o.g y).1 (o.g y).2 := by
  intro f xs ins o h
  cases h
theorem goodv_impl_isProto (fu : Nat) (n_0 : Int) (y : Bool) (hy : F_impl_isProto fu n_0 = some y) : Good E Try.prog 58 [(.int .i64 n_0)] (enc_bo y) :=
  fun_good E_ok (pc_good (pc := pc_impl_isProto fu) (hpc_impl_isProto fu) (hpx_impl_isProto fu)) (fn := Try.f58) (c := body_impl_isProto) (out := out_bo) (y := y) (by kernel_rfl) (by kernel_rfl) (by kernel_rfl) (lpok_impl_isProto fu) (fun d hd => out_bo_enc d _ hd) ((ev_impl_isProto fu n_0).trans hy)
theorem good_impl_isProto (fu : Nat) : ∀ xs o, S_impl_isProto fu xs = some o → ∀ y, o.x = some y → Good E Try.prog 58 xs (o.g y) := by
  intro xs o h y hy
  unfold S_impl_isProto at h
  split at h
  · rename_i a0_0
    cases h
    exact goodv_impl_isProto fu a0_0 y hy
  · cases h

/-! impl.CmdFault -/
def F_impl_CmdFault (fu : Nat) (x_0 : S_impl_Cmd) : Option (Int) :=
  ((F_impl_in fu x_0.Kind 1 9).bind fun y59 => (bif (!y59) then (some 1) else ((F_impl_needs fu x_0.Kind).bind fun y60 => ((((F_impl_in fu x_0.Expect (-1) 1000000).bind fun y61 =>
    (bif (!y61) then (some true) else (bif y60.1 then ((F_impl_isName fu x_0.Name).bind fun y62 => (bif (!y62) then (some true) else (bif y60.2.1 then ((F_impl_isAddress fu x_0.Addr).bind fun y63 =>
    (bif (!y63) then (some true) else (bif y60.2.2.1 then ((F_impl_isNumber fu x_0).bind fun y64 => (bif (!y64) then (some true) else (bif y60.2.2.2 then ((F_impl_isProto fu x_0.Proto).bind fun y65 =>
    (some (!y65))) else (some false)))) else (bif y60.2.2.2 then ((F_impl_isProto fu x_0.Proto).bind fun y66 => (some (!y66))) else (some false))))) else (bif y60.2.2.1 then
    ((F_impl_isNumber fu x_0).bind fun y67 => (bif (!y67) then (some true) else (bif y60.2.2.2 then ((F_impl_isProto fu x_0.Proto).bind fun y68 => (some (!y68))) else (some false)))) else
    (bif y60.2.2.2 then ((F_impl_isProto fu x_0.Proto).bind fun y69 => (some (!y69))) else (some false)))))) else (bif y60.2.1 then ((F_impl_isAddress fu x_0.Addr).bind fun y70 =>
    (bif (!y70) then (some true) else (bif y60.2.2.1 then ((F_impl_isNumber fu x_0).bind fun y71 => (bif (!y71) then (some true) else (bif y60.2.2.2 then ((F_impl_isProto fu x_0.Proto).bind fun y72 =>
    (some (!y72))) else (some false)))) else (bif y60.2.2.2 then ((F_impl_isProto fu x_0.Proto).bind fun y73 => (some (!y73))) else (some false))))) else (bif y60.2.2.1 then
    ((F_impl_isNumber fu x_0).bind fun y74 => (bif (!y74) then (some true) else (bif y60.2.2.2 then ((F_impl_isProto fu x_0.Proto).bind fun y75 => (some (!y75))) else (some false)))) else
    (bif y60.2.2.2 then ((F_impl_isProto fu x_0.Proto).bind fun y76 => (some (!y76))) else (some false))))))) : Option Bool).bind fun m77 => (bif m77 then (some 3) else (((bif (!y60.1) then
    (bif (x_0.Name != 0) then (some true) else (bif (!y60.2.1) then (bif (x_0.Addr != 0) then (some true) else (bif (!y60.2.2.1) then (bif (x_0.Number != 0) then (some true) else
    (bif (!y60.2.2.2) then (some (x_0.Proto != 0)) else (some false))) else (bif (!y60.2.2.2) then (some (x_0.Proto != 0)) else (some false)))) else (bif (!y60.2.2.1) then (bif (x_0.Number != 0) then
    (some true) else (bif (!y60.2.2.2) then (some (x_0.Proto != 0)) else (some false))) else (bif (!y60.2.2.2) then (some (x_0.Proto != 0)) else (some false))))) else (bif (!y60.2.1) then
    (bif (x_0.Addr != 0) then (some true) else (bif (!y60.2.2.1) then (bif (x_0.Number != 0) then (some true) else (bif (!y60.2.2.2) then (some (x_0.Proto != 0)) else (some false))) else
    (bif (!y60.2.2.2) then (some (x_0.Proto != 0)) else (some false)))) else (bif (!y60.2.2.1) then (bif (x_0.Number != 0) then (some true) else (bif (!y60.2.2.2) then (some (x_0.Proto != 0)) else
    (some false))) else (bif (!y60.2.2.2) then (some (x_0.Proto != 0)) else (some false))))) : Option Bool).bind fun m78 => (bif m78 then (some 1) else (some 0))))))))
def pcf_impl_CmdFault (fu : Nat) (f : Nat) (xs : List (D RT den)) : Option (Out RT den) := match f with | 26 => S_impl_isName fu xs | 27 => S_impl_in fu xs | 55 => S_impl_needs fu xs | 56 => S_impl_isAddress fu xs | 57 => S_impl_isNumber fu xs | 58 => S_impl_isProto fu xs | _ => none
def pcx_impl_CmdFault (fu : Nat) (f : Nat) (xs : List (D RT den)) (ins : List (Ob RT den)) : Option (OutX RT den) := none
def pc_impl_CmdFault (fu : Nat) : Pc RT den := ⟨pcf_impl_CmdFault fu, fun _ => false, fun _ => false, pcx_impl_CmdFault fu⟩
def msk_impl_CmdFault (b : Nat) : List Nat := match b with | 200004 => [19] | 200006 => [59] | _ => []
def lp_impl_CmdFault (fu : Nat) : Lp RT den (Int) := fun b s k => none
theorem ev_impl_CmdFault (fu : Nat) (x_0 : S_impl_Cmd) : evFun E (pc_impl_CmdFault fu) msk_impl_CmdFault (lp_impl_CmdFault fu) out_i64 52 [(.agg [(.int .i64 x_0.Kind), (.int .i64 x_0.Expect), (.int .i64 x_0.Name), (.int .i64 x_0.Addr), (.int .i64 x_0.Number), (.int .i64 x_0.Proto)])] = F_impl_CmdFault fu x_0 := by kernel_rfl
noncomputable def body_impl_CmdFault : Code := Try.f52.body.getD .skip
theorem lpok_impl_CmdFault (fu : Nat) : LpOk E (pc_impl_CmdFault fu) msk_impl_CmdFault (lp_impl_CmdFault fu) (loops 0 body_impl_CmdFault) := by
  have h : loops 0 body_impl_CmdFault = [] := by kernel_rfl
  rw [h]; intro p hp; cases hp
def S_impl_CmdFault (fu : Nat) (xs : List (D RT den)) : Option (Out RT den) := match xs with | [.agg [.int .i64 a0_1, .int .i64 a0_2, .int .i64 a0_3, .int .i64 a0_4, .int .i64 a0_5, .int .i64 a0_6]] => some ⟨Int, F_impl_CmdFault fu (⟨a0_1, a0_2, a0_3, a0_4, a0_5, a0_6⟩ : S_impl_Cmd), enc_i64, fun _ => true⟩ | _ => none
theorem hpc_impl_CmdFault (fu : Nat) : ∀ f xs o, pcf_impl_CmdFault fu f xs = some o → ∀ y, o.x = some y → Good E Try.prog f xs (o.g y) := by
  intro f xs o h
  unfold pcf_impl_CmdFault at h
  split at h
  · exact good_impl_isName fu xs o h
  · exact good_impl_in fu xs o h
  · exact good_impl_needs fu xs o h
  · exact good_impl_isAddress fu xs o h
  · exact good_impl_isNumber fu xs o h
  · exact good_impl_isProto fu xs o h
  · cases h
theorem hpx_impl_CmdFault (fu : Nat) : ∀ f xs ins o, pcx_impl_CmdFault fu f xs ins = some o → ∀ y, o.x = some y → GoodX E Try.prog f xs ins (o.g y).1 (o.g y).2 := by
  intro f xs ins o h
  cases h
theorem goodv_impl_CmdFault (fu : Nat) (x_0 : S_impl_Cmd) (y : Int) (hy : F_impl_CmdFault fu x_0 = some y) : Good E Try.prog 52 [(.agg [(.int .i64 x_0.Kind), (.int .i64 x_0.Expect), (.int .i64 x_0.Name), (.int .i64 x_0.Addr), (.int .i64 x_0.Number), (.int .i64 x_0.Proto)])] (enc_i64 y) :=
  fun_good E_ok (pc_good (pc := pc_impl_CmdFault fu) (hpc_impl_CmdFault fu) (hpx_impl_CmdFault fu)) (fn := Try.f52) (c := body_impl_CmdFault) (out := out_i64) (y := y) (by kernel_rfl) (by kernel_rfl) (by kernel_rfl) (lpok_impl_CmdFault fu) (fun d hd => out_i64_enc d _ hd) ((ev_impl_CmdFault fu x_0).trans hy)
theorem good_impl_CmdFault (fu : Nat) : ∀ xs o, S_impl_CmdFault fu xs = some o → ∀ y, o.x = some y → Good E Try.prog 52 xs (o.g y) := by
  intro xs o h y hy
  unfold S_impl_CmdFault at h
  split at h
  · rename_i a0_1 a0_2 a0_3 a0_4 a0_5 a0_6
    cases h
    exact goodv_impl_CmdFault fu (⟨a0_1, a0_2, a0_3, a0_4, a0_5, a0_6⟩ : S_impl_Cmd) y hy
  · cases h

/-! impl.EntryFault -/
def F_impl_EntryFault (fu : Nat) (x_0 : S_impl_Entry) : Option (Int) :=
  ((((F_impl_in fu x_0.Term 1 100000).bind fun y53 => (bif (!y53) then (some true) else ((F_impl_in fu x_0.Client 0 999).bind fun y54 => (bif (!y54) then (some true) else
    ((F_impl_in fu x_0.Seq 0 1000000).bind fun y55 => (some (!y55))))))) : Option Bool).bind fun m56 => (bif m56 then (some 3) else (bif (!((x_0.Client == 0) == (x_0.Seq == 0))) then
    (some 1) else (bif (x_0.Client != 0) then ((F_impl_CmdFault fu x_0.Cmd).bind fun y57 => (some y57)) else (bif (!((x_0.Cmd.Kind == 0) && ((x_0.Cmd.Expect == 0) && ((x_0.Cmd.Name == 0) &&
    ((x_0.Cmd.Addr == 0) && ((x_0.Cmd.Number == 0) && ((x_0.Cmd.Proto == 0) && true))))))) then (some 1) else (some 0))))))
def pcf_impl_EntryFault (fu : Nat) (f : Nat) (xs : List (D RT den)) : Option (Out RT den) := match f with | 27 => S_impl_in fu xs | 52 => S_impl_CmdFault fu xs | _ => none
def pcx_impl_EntryFault (fu : Nat) (f : Nat) (xs : List (D RT den)) (ins : List (Ob RT den)) : Option (OutX RT den) := none
def pc_impl_EntryFault (fu : Nat) : Pc RT den := ⟨pcf_impl_EntryFault fu, fun _ => false, fun _ => false, pcx_impl_EntryFault fu⟩
def msk_impl_EntryFault (b : Nat) : List Nat := match b with | 200001 => [3] | _ => []
def lp_impl_EntryFault (fu : Nat) : Lp RT den (Int) := fun b s k => none
theorem ev_impl_EntryFault (fu : Nat) (x_0 : S_impl_Entry) : evFun E (pc_impl_EntryFault fu) msk_impl_EntryFault (lp_impl_EntryFault fu) out_i64 39 [(.agg [(.int .i64 x_0.Term), (.int .i64 x_0.Client), (.int .i64 x_0.Seq), (.int .i64 x_0.Cmd.Kind), (.int .i64 x_0.Cmd.Expect), (.int .i64 x_0.Cmd.Name), (.int .i64 x_0.Cmd.Addr), (.int .i64 x_0.Cmd.Number), (.int .i64 x_0.Cmd.Proto)])] = F_impl_EntryFault fu x_0 := by kernel_rfl
noncomputable def body_impl_EntryFault : Code := Try.f39.body.getD .skip
theorem lpok_impl_EntryFault (fu : Nat) : LpOk E (pc_impl_EntryFault fu) msk_impl_EntryFault (lp_impl_EntryFault fu) (loops 0 body_impl_EntryFault) := by
  have h : loops 0 body_impl_EntryFault = [] := by kernel_rfl
  rw [h]; intro p hp; cases hp
def S_impl_EntryFault (fu : Nat) (xs : List (D RT den)) : Option (Out RT den) := match xs with | [.agg [.int .i64 a0_1, .int .i64 a0_2, .int .i64 a0_3, .int .i64 a0_5, .int .i64 a0_6, .int .i64 a0_7, .int .i64 a0_8, .int .i64 a0_9, .int .i64 a0_10]] => some ⟨Int, F_impl_EntryFault fu (⟨a0_1, a0_2, a0_3, (⟨a0_5, a0_6, a0_7, a0_8, a0_9, a0_10⟩ : S_impl_Cmd)⟩ : S_impl_Entry), enc_i64, fun _ => true⟩ | _ => none
theorem hpc_impl_EntryFault (fu : Nat) : ∀ f xs o, pcf_impl_EntryFault fu f xs = some o → ∀ y, o.x = some y → Good E Try.prog f xs (o.g y) := by
  intro f xs o h
  unfold pcf_impl_EntryFault at h
  split at h
  · exact good_impl_in fu xs o h
  · exact good_impl_CmdFault fu xs o h
  · cases h
theorem hpx_impl_EntryFault (fu : Nat) : ∀ f xs ins o, pcx_impl_EntryFault fu f xs ins = some o → ∀ y, o.x = some y → GoodX E Try.prog f xs ins (o.g y).1 (o.g y).2 := by
  intro f xs ins o h
  cases h
theorem goodv_impl_EntryFault (fu : Nat) (x_0 : S_impl_Entry) (y : Int) (hy : F_impl_EntryFault fu x_0 = some y) : Good E Try.prog 39 [(.agg [(.int .i64 x_0.Term), (.int .i64 x_0.Client), (.int .i64 x_0.Seq), (.int .i64 x_0.Cmd.Kind), (.int .i64 x_0.Cmd.Expect), (.int .i64 x_0.Cmd.Name), (.int .i64 x_0.Cmd.Addr), (.int .i64 x_0.Cmd.Number), (.int .i64 x_0.Cmd.Proto)])] (enc_i64 y) :=
  fun_good E_ok (pc_good (pc := pc_impl_EntryFault fu) (hpc_impl_EntryFault fu) (hpx_impl_EntryFault fu)) (fn := Try.f39) (c := body_impl_EntryFault) (out := out_i64) (y := y) (by kernel_rfl) (by kernel_rfl) (by kernel_rfl) (lpok_impl_EntryFault fu) (fun d hd => out_i64_enc d _ hd) ((ev_impl_EntryFault fu x_0).trans hy)
theorem good_impl_EntryFault (fu : Nat) : ∀ xs o, S_impl_EntryFault fu xs = some o → ∀ y, o.x = some y → Good E Try.prog 39 xs (o.g y) := by
  intro xs o h y hy
  unfold S_impl_EntryFault at h
  split at h
  · rename_i a0_1 a0_2 a0_3 a0_5 a0_6 a0_7 a0_8 a0_9 a0_10
    cases h
    exact goodv_impl_EntryFault fu (⟨a0_1, a0_2, a0_3, (⟨a0_5, a0_6, a0_7, a0_8, a0_9, a0_10⟩ : S_impl_Cmd)⟩ : S_impl_Entry) y hy
  · cases h

/-! impl.LogFault -/
def F_impl_LogFault_B0 {ρ : Type} (fu : Nat) (log0_0 : (Sl S_impl_Entry)) (t9_1 : (Sl S_impl_Entry)) (t10_2 : Int) (k0 : Int → Int → Int → Int → Int → Int → Int → Int → Int → Int → Option ρ) (k1 : Int → Int → Int → Int → Int → Int → Int → Int → Int → Option ρ) (k2 : Option ρ) (t11_3 : Int) (go : Int → Option ρ) : Option ρ :=
  (bif (decide (t11_3 < t10_2)) then ((bif (decide (0 ≤ t11_3) && decide ((Int.toNat t11_3) < t9_1.n)) then some () else none : Option Unit).bind fun _ => ((F_impl_EntryFault fu (t9_1.f (Int.toNat t11_3))).bind fun y32 =>
    (bif (y32 != 0) then (k0 y32 (t9_1.f (Int.toNat t11_3)).Term (t9_1.f (Int.toNat t11_3)).Client (t9_1.f (Int.toNat t11_3)).Seq (t9_1.f (Int.toNat t11_3)).Cmd.Kind (t9_1.f (Int.toNat t11_3)).Cmd.Expect (t9_1.f (Int.toNat t11_3)).Cmd.Name (t9_1.f (Int.toNat t11_3)).Cmd.Addr (t9_1.f (Int.toNat t11_3)).Cmd.Number (t9_1.f (Int.toNat t11_3)).Cmd.Proto) else
    (((bif (decide (t11_3 > 0)) then ((bif (decide (0 ≤ (IntKind.wrap .i64 (t11_3 - 1))) && decide ((Int.toNat (IntKind.wrap .i64 (t11_3 - 1))) < log0_0.n)) then some () else none : Option Unit).bind fun _ =>
    (some (decide ((t9_1.f (Int.toNat t11_3)).Term < (log0_0.f (Int.toNat (IntKind.wrap .i64 (t11_3 - 1)))).Term)))) else (some false)) : Option Bool).bind fun m33 => (bif m33 then
    (k1 (t9_1.f (Int.toNat t11_3)).Term (t9_1.f (Int.toNat t11_3)).Client (t9_1.f (Int.toNat t11_3)).Seq (t9_1.f (Int.toNat t11_3)).Cmd.Kind (t9_1.f (Int.toNat t11_3)).Cmd.Expect (t9_1.f (Int.toNat t11_3)).Cmd.Name (t9_1.f (Int.toNat t11_3)).Cmd.Addr (t9_1.f (Int.toNat t11_3)).Cmd.Number (t9_1.f (Int.toNat t11_3)).Cmd.Proto) else
    (go (IntKind.wrap .i64 (t11_3 + 1)))))))) else k2)
def F_impl_LogFault (fu : Nat) (log_0 : (Sl S_impl_Entry)) : Option (Int) :=
  (bif (decide (((log_0.n : Nat) : Int) > 40)) then (some 2) else (L (fun w0 go0 => F_impl_LogFault_B0 fu log_0 log_0 ((log_0.n : Nat) : Int) (fun z34 z35 z36 z37 z38 z39 z40 z41 z42 z43 =>
    (some z34)) (fun z44 z45 z46 z47 z48 z49 z50 z51 z52 => (some 1)) (some 0) w0 go0) fu (0 : Int)))
def pcf_impl_LogFault (fu : Nat) (f : Nat) (xs : List (D RT den)) : Option (Out RT den) := match f with | 39 => S_impl_EntryFault fu xs | _ => none
def pcx_impl_LogFault (fu : Nat) (f : Nat) (xs : List (D RT den)) (ins : List (Ob RT den)) : Option (OutX RT den) := none
def pc_impl_LogFault (fu : Nat) : Pc RT den := ⟨pcf_impl_LogFault fu, fun _ => false, fun _ => false, pcx_impl_LogFault fu⟩
def msk_impl_LogFault (b : Nat) : List Nat := match b with | 0 => [1, 2, 3, 4, 5, 6, 7, 8, 12, 13, 14, 15, 16, 17, 18, 19, 20, 21, 22, 23, 24, 25, 26, 27, 28, 29, 30, 31, 32, 33, 34] | 100000 => [0, 1, 3, 4, 5, 6, 7, 8, 9, 10, 11, 12, 13, 14, 15, 16, 17, 18, 19, 20, 21, 22, 23, 24, 25, 26, 27, 28, 29, 30, 31, 32, 33, 34] | 200009 => [33] | _ => []
def ps_impl_LogFault_0 : List (Pat RT) := [.flat (.rs .impl_Entry), .flat .dead, .flat .dead, .flat .dead, .flat .dead, .flat .dead, .flat .dead, .flat .dead, .flat .dead, .flat (.rs .impl_Entry), .flat (.int .i64), .flat (.int .i64), .flat .dead, .flat .dead, .flat .dead, .flat .dead, .flat .dead, .flat .dead, .flat .dead, .flat .dead, .flat .dead, .flat .dead, .flat .dead, .flat .dead, .flat .dead, .flat .dead, .flat .dead, .flat .dead, .flat .dead, .flat .dead, .flat .dead, .flat .dead, .flat .dead, .flat .dead, .flat .dead]
def os_impl_LogFault_0 : List (OP RT) := []
def conv_impl_LogFault_0 (r : Raw den ps_impl_LogFault_0 os_impl_LogFault_0) : ((Sl S_impl_Entry) × (Sl S_impl_Entry) × Int) × (Int) := ((r.1.1, r.1.2.2.2.2.2.2.2.2.2.1, r.1.2.2.2.2.2.2.2.2.2.2.1), r.1.2.2.2.2.2.2.2.2.2.2.2.1)
def back_impl_LogFault_0 (c : (Sl S_impl_Entry) × (Sl S_impl_Entry) × Int) (w : Int) : St RT den := ⟨[(.rs c.1.z .impl_Entry c.1.n c.1.f), .dead, .dead, .dead, .dead, .dead, .dead, .dead, .dead, (.rs c.2.1.z .impl_Entry c.2.1.n c.2.1.f), (.int .i64 c.2.2), (.int .i64 w), .dead, .dead, .dead, .dead, .dead, .dead, .dead, .dead, .dead, .dead, .dead, .dead, .dead, .dead, .dead, .dead, .dead, .dead, .dead, .dead, .dead, .dead, .dead], []⟩
def Bk_impl_LogFault_0 {ρ : Type} (fu : Nat) (c : (Sl S_impl_Entry) × (Sl S_impl_Entry) × Int) (k : Ex → St RT den → Option ρ) (w : Int) (go : (Int) → Option ρ) : Option ρ := F_impl_LogFault_B0 fu c.1 c.2.1 c.2.2 (fun a0 a1 a2 a3 a4 a5 a6 a7 a8 a9 => k .ret ⟨[.dead, .dead, (.int .i64 a0), .dead, .dead, .dead, .dead, .dead, .dead, .dead, .dead, .dead, .dead, .dead, .dead, .dead, .dead, .dead, .dead, .dead, .dead, .dead, .dead, .dead, .dead, .dead, .dead, .dead, .dead, .dead, .dead, .dead, .dead, .dead, .dead], [(.box false [(.int .i64 a1), (.int .i64 a2), (.int .i64 a3), (.int .i64 a4), (.int .i64 a5), (.int .i64 a6), (.int .i64 a7), (.int .i64 a8), (.int .i64 a9)])]⟩) (fun a0 a1 a2 a3 a4 a5 a6 a7 a8 => k .ret ⟨[.dead, .dead, (.int .i64 1), .dead, .dead, .dead, .dead, .dead, .dead, .dead, .dead, .dead, .dead, .dead, .dead, .dead, .dead, .dead, .dead, .dead, .dead, .dead, .dead, .dead, .dead, .dead, .dead, .dead, .dead, .dead, .dead, .dead, .dead, .dead, .dead], [(.box false [(.int .i64 a0), (.int .i64 a1), (.int .i64 a2), (.int .i64 a3), (.int .i64 a4), (.int .i64 a5), (.int .i64 a6), (.int .i64 a7), (.int .i64 a8)])]⟩) (k (.exit 0) ⟨[.dead, .dead, .dead, .dead, .dead, .dead, .dead, .dead, .dead, .dead, .dead, .dead, .dead, .dead, .dead, .dead, .dead, .dead, .dead, .dead, .dead, .dead, .dead, .dead, .dead, .dead, .dead, .dead, .dead, .dead, .dead, .dead, .dead, .dead, .dead], []⟩) w go
def lp_impl_LogFault (fu : Nat) : Lp RT den (Int) := fun b s k => match b with | 0 => handle ps_impl_LogFault_0 os_impl_LogFault_0 conv_impl_LogFault_0 (Bk_impl_LogFault_0 fu) fu s k | _ => none
theorem ev_impl_LogFault (fu : Nat) (log_0 : (Sl S_impl_Entry)) : evFun E (pc_impl_LogFault fu) msk_impl_LogFault (lp_impl_LogFault fu) out_i64 14 [(.rs log_0.z .impl_Entry log_0.n log_0.f)] = F_impl_LogFault fu log_0 := by kernel_rfl
noncomputable def body_impl_LogFault : Code := Try.f14.body.getD .skip
noncomputable def lc_impl_LogFault_0 : Code := ((loops 0 body_impl_LogFault).getD 0 (0, .skip)).2
theorem round_impl_LogFault_0 (fu : Nat) (it : St RT den → Option (Int)) (k : Ex → St RT den → Option (Int)) c w : evCode E (pc_impl_LogFault fu) msk_impl_LogFault (lp_impl_LogFault fu) 0 lc_impl_LogFault_0 (back_impl_LogFault_0 c w) (after (msk_impl_LogFault 0) (msk_impl_LogFault 100000) 0 it k) = Bk_impl_LogFault_0 fu c k w (fun w => it (back_impl_LogFault_0 c w)) := by kernel_rfl
theorem lpok_impl_LogFault_0 (fu : Nat) : ∀ s k r, lp_impl_LogFault fu 0 s k = some r → ∃ fuel, iter (msk_impl_LogFault 0) (msk_impl_LogFault 100000) s.objs.length (evCode E (pc_impl_LogFault fu) msk_impl_LogFault (lp_impl_LogFault fu) 0 lc_impl_LogFault_0) fuel s k = some r :=
  handle_ok (ps := ps_impl_LogFault_0) (os := os_impl_LogFault_0) (conv := conv_impl_LogFault_0) (B := Bk_impl_LogFault_0 fu) (fu := fu) back_impl_LogFault_0 (fun raw => by kernel_rfl) 0 (fun c w => by kernel_rfl) (round_impl_LogFault_0 fu)
theorem lpok_impl_LogFault (fu : Nat) : LpOk E (pc_impl_LogFault fu) msk_impl_LogFault (lp_impl_LogFault fu) (loops 0 body_impl_LogFault) := loop_all 1 (by kernel_rfl) fun i hi => match i, hi with
  | 0, _ => by
    have h : (loops 0 body_impl_LogFault).getD 0 (0, .skip) = (0, lc_impl_LogFault_0) := by kernel_rfl
    rw [h]; exact lpok_impl_LogFault_0 fu
  | i + 1, hi => absurd hi (by omega)
def S_impl_LogFault (fu : Nat) (xs : List (D RT den)) : Option (Out RT den) := match xs with | [.rs za0_0 .impl_Entry na0_0 fa0_0] => some ⟨Int, F_impl_LogFault fu (⟨za0_0, na0_0, fa0_0⟩ : (Sl S_impl_Entry)), enc_i64, fun _ => true⟩ | _ => none
theorem hpc_impl_LogFault (fu : Nat) : ∀ f xs o, pcf_impl_LogFault fu f xs = some o → ∀ y, o.x = some y → Good E Try.prog f xs (o.g y) := by
  intro f xs o h
  unfold pcf_impl_LogFault at h
  split at h
  · exact good_impl_EntryFault fu xs o h
  · cases h
theorem hpx_impl_LogFault (fu : Nat) : ∀ f xs ins o, pcx_impl_LogFault fu f xs ins = some o → ∀ y, o.x = some y → GoodX E Try.prog f xs ins (o.g y).1 (o.g y).2 := by
  intro f xs ins o h
  cases h
theorem goodv_impl_LogFault (fu : Nat) (log_0 : (Sl S_impl_Entry)) (y : Int) (hy : F_impl_LogFault fu log_0 = some y) : Good E Try.prog 14 [(.rs log_0.z .impl_Entry log_0.n log_0.f)] (enc_i64 y) :=
  fun_good E_ok (pc_good (pc := pc_impl_LogFault fu) (hpc_impl_LogFault fu) (hpx_impl_LogFault fu)) (fn := Try.f14) (c := body_impl_LogFault) (out := out_i64) (y := y) (by kernel_rfl) (by kernel_rfl) (by kernel_rfl) (lpok_impl_LogFault fu) (fun d hd => out_i64_enc d _ hd) ((ev_impl_LogFault fu log_0).trans hy)
theorem good_impl_LogFault (fu : Nat) : ∀ xs o, S_impl_LogFault fu xs = some o → ∀ y, o.x = some y → Good E Try.prog 14 xs (o.g y) := by
  intro xs o h y hy
  unfold S_impl_LogFault at h
  split at h
  · rename_i za0_0 na0_0 fa0_0
    cases h
    exact goodv_impl_LogFault fu (⟨za0_0, na0_0, fa0_0⟩ : (Sl S_impl_Entry)) y hy
  · cases h

/-! impl.fits -/
def F_impl_fits (fu : Nat) (log_0 : (Sl S_impl_Entry)) (index_1 : Int) (term_2 : Int) : Option (Bool) :=
  (bif (index_1 == 0) then (some (term_2 == 0)) else ((((F_impl_size_impl_Entry fu log_0).bind fun y90 => ((F_impl_in fu index_1 1 y90).bind fun y91 => (bif y91 then ((bif (decide (0 ≤ (IntKind.wrap .i64 (index_1 - 1))) &&
    decide ((Int.toNat (IntKind.wrap .i64 (index_1 - 1))) < log_0.n)) then some () else none : Option Unit).bind fun _ => (some ((log_0.f (Int.toNat (IntKind.wrap .i64 (index_1 - 1)))).Term == term_2))) else
    (some false)))) : Option Bool).bind fun m92 => (some m92)))
def pcf_impl_fits (fu : Nat) (f : Nat) (xs : List (D RT den)) : Option (Out RT den) := match f with | 27 => S_impl_in fu xs | 49 => S_impl_size_impl_Entry fu xs | _ => none
def pcx_impl_fits (fu : Nat) (f : Nat) (xs : List (D RT den)) (ins : List (Ob RT den)) : Option (OutX RT den) := none
def pc_impl_fits (fu : Nat) : Pc RT den := ⟨pcf_impl_fits fu, fun _ => false, fun _ => false, pcx_impl_fits fu⟩
def msk_impl_fits (b : Nat) : List Nat := match b with | 200003 => [6] | _ => []
def lp_impl_fits (fu : Nat) : Lp RT den (Bool) := fun b s k => none
theorem ev_impl_fits (fu : Nat) (log_0 : (Sl S_impl_Entry)) (index_1 : Int) (term_2 : Int) : evFun E (pc_impl_fits fu) msk_impl_fits (lp_impl_fits fu) out_bo 34 [(.rs log_0.z .impl_Entry log_0.n log_0.f), (.int .i64 index_1), (.int .i64 term_2)] = F_impl_fits fu log_0 index_1 term_2 := by kernel_rfl
noncomputable def body_impl_fits : Code := Try.f34.body.getD .skip
theorem lpok_impl_fits (fu : Nat) : LpOk E (pc_impl_fits fu) msk_impl_fits (lp_impl_fits fu) (loops 0 body_impl_fits) := by
  have h : loops 0 body_impl_fits = [] := by kernel_rfl
  rw [h]; intro p hp; cases hp
def S_impl_fits (fu : Nat) (xs : List (D RT den)) : Option (Out RT den) := match xs with | [.rs za0_0 .impl_Entry na0_0 fa0_0, .int .i64 a1_0, .int .i64 a2_0] => some ⟨Bool, F_impl_fits fu (⟨za0_0, na0_0, fa0_0⟩ : (Sl S_impl_Entry)) a1_0 a2_0, enc_bo, fun _ => true⟩ | _ => none
theorem hpc_impl_fits (fu : Nat) : ∀ f xs o, pcf_impl_fits fu f xs = some o → ∀ y, o.x = some y → Good E Try.prog f xs (o.g y) := by
  intro f xs o h
  unfold pcf_impl_fits at h
  split at h
  · exact good_impl_in fu xs o h
  · exact good_impl_size_impl_Entry fu xs o h
  · cases h
theorem hpx_impl_fits (fu : Nat) : ∀ f xs ins o, pcx_impl_fits fu f xs ins = some o → ∀ y, o.x = some y → GoodX E Try.prog f xs ins (o.g y).1 (o.g y).2 := by
  intro f xs ins o h
  cases h
theorem goodv_impl_fits (fu : Nat) (log_0 : (Sl S_impl_Entry)) (index_1 : Int) (term_2 : Int) (y : Bool) (hy : F_impl_fits fu log_0 index_1 term_2 = some y) : Good E Try.prog 34 [(.rs log_0.z .impl_Entry log_0.n log_0.f), (.int .i64 index_1), (.int .i64 term_2)] (enc_bo y) :=
  fun_good E_ok (pc_good (pc := pc_impl_fits fu) (hpc_impl_fits fu) (hpx_impl_fits fu)) (fn := Try.f34) (c := body_impl_fits) (out := out_bo) (y := y) (by kernel_rfl) (by kernel_rfl) (by kernel_rfl) (lpok_impl_fits fu) (fun d hd => out_bo_enc d _ hd) ((ev_impl_fits fu log_0 index_1 term_2).trans hy)
theorem good_impl_fits (fu : Nat) : ∀ xs o, S_impl_fits fu xs = some o → ∀ y, o.x = some y → Good E Try.prog 34 xs (o.g y) := by
  intro xs o h y hy
  unfold S_impl_fits at h
  split at h
  · rename_i za0_0 na0_0 fa0_0 a1_0 a2_0
    cases h
    exact goodv_impl_fits fu (⟨za0_0, na0_0, fa0_0⟩ : (Sl S_impl_Entry)) a1_0 a2_0 y hy
  · cases h

/-! impl.TakeEntries -/
def F_impl_TakeEntries (fu : Nat) (log_0 : (Sl S_impl_Entry)) (index_1 : Int) (term_2 : Int) (more_3 : (Sl S_impl_Entry)) : Option (S_impl_EntriesResult) :=
  ((F_impl_LogFault fu log_0).bind fun y4 => (bif (y4 == 0) then ((F_impl_LogFault fu more_3).bind fun y5 => (bif (y5 != 0) then (some (⟨y5, (⟨(some true), 0, (fun _ => dflt .impl_Entry)⟩ : (Sl S_impl_Entry))⟩ : S_impl_EntriesResult)) else
    ((F_impl_fits fu log_0 index_1 term_2).bind fun y6 => (bif (!y6) then (some (⟨9, (⟨(some true), 0, (fun _ => dflt .impl_Entry)⟩ : (Sl S_impl_Entry))⟩ : S_impl_EntriesResult)) else
    (((bif (decide (((more_3.n : Nat) : Int) > 0)) then ((bif (decide (0 ≤ (0 : Int)) && decide ((Int.toNat 0) < more_3.n)) then some () else none : Option Unit).bind fun _ => (some (decide ((more_3.f (Int.toNat 0)).Term < term_2)))) else
    (some false)) : Option Bool).bind fun m7 => (bif m7 then (some (⟨1, (⟨(some true), 0, (fun _ => dflt .impl_Entry)⟩ : (Sl S_impl_Entry))⟩ : S_impl_EntriesResult)) else
    ((F_impl_take_H fu log_0 index_1 more_3).bind fun y8 => (some (⟨y8.Code, (⟨none, y8.Entries.n, y8.Entries.f⟩ : (Sl S_impl_Entry))⟩ : S_impl_EntriesResult))))))))) else (bif (y4 != 0) then
    (some (⟨y4, (⟨(some true), 0, (fun _ => dflt .impl_Entry)⟩ : (Sl S_impl_Entry))⟩ : S_impl_EntriesResult)) else ((F_impl_fits fu log_0 index_1 term_2).bind fun y29 => (bif (!y29) then
    (some (⟨9, (⟨(some true), 0, (fun _ => dflt .impl_Entry)⟩ : (Sl S_impl_Entry))⟩ : S_impl_EntriesResult)) else (((bif (decide (((more_3.n : Nat) : Int) > 0)) then ((bif (decide (0 ≤ (0 : Int)) &&
    decide ((Int.toNat 0) < more_3.n)) then some () else none : Option Unit).bind fun _ => (some (decide ((more_3.f (Int.toNat 0)).Term < term_2)))) else (some false)) : Option Bool).bind fun m30 =>
    (bif m30 then (some (⟨1, (⟨(some true), 0, (fun _ => dflt .impl_Entry)⟩ : (Sl S_impl_Entry))⟩ : S_impl_EntriesResult)) else ((F_impl_take_H fu log_0 index_1 more_3).bind fun y31 =>
    (some (⟨y31.Code, (⟨none, y31.Entries.n, y31.Entries.f⟩ : (Sl S_impl_Entry))⟩ : S_impl_EntriesResult))))))))))
noncomputable def pcf_impl_TakeEntries (fu : Nat) (f : Nat) (xs : List (D RT den)) : Option (Out RT den) := match f with | 14 => S_impl_LogFault fu xs | 34 => S_impl_fits fu xs | 35 => (S_impl_take_H fu xs []).bind fun o => some (o.frz E) | _ => none
def pcx_impl_TakeEntries (fu : Nat) (f : Nat) (xs : List (D RT den)) (ins : List (Ob RT den)) : Option (OutX RT den) := none
noncomputable def pc_impl_TakeEntries (fu : Nat) : Pc RT den := ⟨pcf_impl_TakeEntries fu, fun _ => false, fun _ => false, pcx_impl_TakeEntries fu⟩
def msk_impl_TakeEntries (b : Nat) : List Nat := match b with | 200008 => [28] | _ => []
def lp_impl_TakeEntries (fu : Nat) : Lp RT den (S_impl_EntriesResult) := fun b s k => none
theorem ev_impl_TakeEntries (fu : Nat) (log_0 : (Sl S_impl_Entry)) (index_1 : Int) (term_2 : Int) (more_3 : (Sl S_impl_Entry)) : evFun E (pc_impl_TakeEntries fu) msk_impl_TakeEntries (lp_impl_TakeEntries fu) out_impl_EntriesResult 12 [(.rs log_0.z .impl_Entry log_0.n log_0.f), (.int .i64 index_1), (.int .i64 term_2), (.rs more_3.z .impl_Entry more_3.n more_3.f)] = F_impl_TakeEntries fu log_0 index_1 term_2 more_3 := by kernel_rfl
noncomputable def body_impl_TakeEntries : Code := Try.f12.body.getD .skip
theorem lpok_impl_TakeEntries (fu : Nat) : LpOk E (pc_impl_TakeEntries fu) msk_impl_TakeEntries (lp_impl_TakeEntries fu) (loops 0 body_impl_TakeEntries) := by
  have h : loops 0 body_impl_TakeEntries = [] := by kernel_rfl
  rw [h]; intro p hp; cases hp
def S_impl_TakeEntries (fu : Nat) (xs : List (D RT den)) : Option (Out RT den) := match xs with | [.rs za0_0 .impl_Entry na0_0 fa0_0, .int .i64 a1_0, .int .i64 a2_0, .rs za3_0 .impl_Entry na3_0 fa3_0] => some ⟨S_impl_EntriesResult, F_impl_TakeEntries fu (⟨za0_0, na0_0, fa0_0⟩ : (Sl S_impl_Entry)) a1_0 a2_0 (⟨za3_0, na3_0, fa3_0⟩ : (Sl S_impl_Entry)), enc_impl_EntriesResult, fun _ => true⟩ | _ => none
theorem hpc_impl_TakeEntries (fu : Nat) : ∀ f xs o, pcf_impl_TakeEntries fu f xs = some o → ∀ y, o.x = some y → Good E Try.prog f xs (o.g y) := by
  intro f xs o h
  unfold pcf_impl_TakeEntries at h
  split at h
  · exact good_impl_LogFault fu xs o h
  · exact good_impl_fits fu xs o h
  · exact good_frz E_ok (good_impl_take_H fu) xs o h
  · cases h
theorem hpx_impl_TakeEntries (fu : Nat) : ∀ f xs ins o, pcx_impl_TakeEntries fu f xs ins = some o → ∀ y, o.x = some y → GoodX E Try.prog f xs ins (o.g y).1 (o.g y).2 := by
  intro f xs ins o h
  cases h
theorem goodv_impl_TakeEntries (fu : Nat) (log_0 : (Sl S_impl_Entry)) (index_1 : Int) (term_2 : Int) (more_3 : (Sl S_impl_Entry)) (y : S_impl_EntriesResult) (hy : F_impl_TakeEntries fu log_0 index_1 term_2 more_3 = some y) : Good E Try.prog 12 [(.rs log_0.z .impl_Entry log_0.n log_0.f), (.int .i64 index_1), (.int .i64 term_2), (.rs more_3.z .impl_Entry more_3.n more_3.f)] (enc_impl_EntriesResult y) :=
  fun_good E_ok (pc_good (pc := pc_impl_TakeEntries fu) (hpc_impl_TakeEntries fu) (hpx_impl_TakeEntries fu)) (fn := Try.f12) (c := body_impl_TakeEntries) (out := out_impl_EntriesResult) (y := y) (by kernel_rfl) (by kernel_rfl) (by kernel_rfl) (lpok_impl_TakeEntries fu) (fun d hd => out_impl_EntriesResult_enc d _ hd) ((ev_impl_TakeEntries fu log_0 index_1 term_2 more_3).trans hy)
theorem good_impl_TakeEntries (fu : Nat) : ∀ xs o, S_impl_TakeEntries fu xs = some o → ∀ y, o.x = some y → Good E Try.prog 12 xs (o.g y) := by
  intro xs o h y hy
  unfold S_impl_TakeEntries at h
  split at h
  · rename_i za0_0 na0_0 fa0_0 a1_0 a2_0 za3_0 na3_0 fa3_0
    cases h
    exact goodv_impl_TakeEntries fu (⟨za0_0, na0_0, fa0_0⟩ : (Sl S_impl_Entry)) a1_0 a2_0 (⟨za3_0, na3_0, fa3_0⟩ : (Sl S_impl_Entry)) y hy
  · cases h

/-! spec.l7Copy -/
def F_spec_l7Copy_H (fu : Nat) (log_0 : (Sl S_impl_Entry)) : Option ((Sl S_impl_Entry)) :=
  (bif (decide (log_0.n ≤ 9223372036854775807) && decide (log_0.n * 72 ≤ 140737488355328)) then (some (⟨none, log_0.n, log_0.f⟩ : (Sl S_impl_Entry))) else none)
def pcf_spec_l7Copy_H (fu : Nat) (f : Nat) (xs : List (D RT den)) : Option (Out RT den) := none
def pcx_spec_l7Copy_H (fu : Nat) (f : Nat) (xs : List (D RT den)) (ins : List (Ob RT den)) : Option (OutX RT den) := none
def pc_spec_l7Copy_H (fu : Nat) : Pc RT den := ⟨pcf_spec_l7Copy_H fu, fun _ => false, fun _ => false, pcx_spec_l7Copy_H fu⟩
def msk_spec_l7Copy_H (b : Nat) : List Nat := []
def lp_spec_l7Copy_H (fu : Nat) : Lp RT den ((Sl S_impl_Entry)) := fun b s k => none
theorem ev_spec_l7Copy_H (fu : Nat) (log_0 : (Sl S_impl_Entry)) : evFunX E false (pc_spec_l7Copy_H fu) msk_spec_l7Copy_H (lp_spec_l7Copy_H fu) out_sl_impl_Entry_H 31 [(.rs log_0.z .impl_Entry log_0.n log_0.f)] [] = F_spec_l7Copy_H fu log_0 := by kernel_rfl
noncomputable def body_spec_l7Copy_H : Code := Try.f31.body.getD .skip
theorem lpok_spec_l7Copy_H (fu : Nat) : LpOk E (pc_spec_l7Copy_H fu) msk_spec_l7Copy_H (lp_spec_l7Copy_H fu) (loops 0 body_spec_l7Copy_H) := by
  have h : loops 0 body_spec_l7Copy_H = [] := by kernel_rfl
  rw [h]; intro p hp; cases hp
def S_spec_l7Copy_H (fu : Nat) (xs : List (D RT den)) (ins : List (Ob RT den)) : Option (OutX RT den) := match xs, ins with | [.rs za0_0 .impl_Entry na0_0 fa0_0], [] => some ⟨(Sl S_impl_Entry), F_spec_l7Copy_H fu (⟨za0_0, na0_0, fa0_0⟩ : (Sl S_impl_Entry)), enc_sl_impl_Entry_H⟩ | _, _ => none
theorem hpc_spec_l7Copy_H (fu : Nat) : ∀ f xs o, pcf_spec_l7Copy_H fu f xs = some o → ∀ y, o.x = some y → Good E Try.prog f xs (o.g y) := by
  intro f xs o h
  cases h
theorem hpx_spec_l7Copy_H (fu : Nat) : ∀ f xs ins o, pcx_spec_l7Copy_H fu f xs ins = some o → ∀ y, o.x = some y → GoodX E Try.prog f xs ins (o.g y).1 (o.g y).2 := by
  intro f xs ins o h
  cases h
theorem goodv_spec_l7Copy_H (fu : Nat) (log_0 : (Sl S_impl_Entry)) (y : (Sl S_impl_Entry)) (hy : F_spec_l7Copy_H fu log_0 = some y) : GoodX E Try.prog 31 [(.rs log_0.z .impl_Entry log_0.n log_0.f)] [] (enc_sl_impl_Entry_H y).1 (enc_sl_impl_Entry_H y).2 :=
  funX_good (ke := false) E_ok (pc_good (pc := pc_spec_l7Copy_H fu) (hpc_spec_l7Copy_H fu) (hpx_spec_l7Copy_H fu)) (fn := Try.f31) (c := body_spec_l7Copy_H) (out := out_sl_impl_Entry_H) (y := y) (by kernel_rfl) (by kernel_rfl) (by kernel_rfl) (lpok_spec_l7Copy_H fu) (by kernel_rfl) (Nat.zero_le _) (fun d os hd => out_sl_impl_Entry_H_enc d os _ hd) ((ev_spec_l7Copy_H fu log_0).trans hy)
theorem good_spec_l7Copy_H (fu : Nat) : ∀ xs ins o, S_spec_l7Copy_H fu xs ins = some o → ∀ y, o.x = some y → GoodX E Try.prog 31 xs ins (o.g y).1 (o.g y).2 := by
  intro xs ins o h y hy
  unfold S_spec_l7Copy_H at h
  split at h
  · rename_i za0_0 na0_0 fa0_0
    cases h
    exact goodv_spec_l7Copy_H fu (⟨za0_0, na0_0, fa0_0⟩ : (Sl S_impl_Entry)) y hy
  · cases h

/-! spec.l7Take -/
def F_spec_l7Take_H_B0 {ρ : Type} (fu : Nat) (log0_0 : (Sl S_impl_Entry)) (index1_1 : Int) (more2_2 : (Sl S_impl_Entry)) (k0 : Nat → Nat → (Nat → S_impl_Entry) → Option ρ) (k1 : Option ρ) (k7_3 : Int) (go : Int → Option ρ) : Option ρ :=
  (bif (decide (k7_3 < ((more2_2.n : Nat) : Int))) then (((bif (decide ((IntKind.wrap .i64 (index1_1 + k7_3)) ≥ ((log0_0.n : Nat) : Int))) then (some true) else ((bif (decide (0 ≤ (IntKind.wrap .i64 (index1_1 + k7_3))) &&
    decide ((Int.toNat (IntKind.wrap .i64 (index1_1 + k7_3))) < log0_0.n)) then some () else none : Option Unit).bind fun _ => ((bif (decide (0 ≤ k7_3) && decide ((Int.toNat k7_3) < more2_2.n)) then
    some () else none : Option Unit).bind fun _ => (some ((log0_0.f (Int.toNat (IntKind.wrap .i64 (index1_1 + k7_3)))).Term != (more2_2.f (Int.toNat k7_3)).Term))))) : Option Bool).bind fun m101 =>
    (bif m101 then ((bif (decide ((0 : Int) ≤ (IntKind.wrap .i64 (index1_1 + k7_3))) && decide ((Int.toNat (IntKind.wrap .i64 (index1_1 + k7_3))) ≤ log0_0.n)) then some () else none : Option Unit).bind fun _ =>
    ((F_spec_l7Copy_H fu (⟨log0_0.z, ((Int.toNat (IntKind.wrap .i64 (index1_1 + k7_3))) - 0), (fun i => log0_0.f (0 + i))⟩ : (Sl S_impl_Entry))).bind fun y102 => ((bif (decide (0 ≤ k7_3) &&
    (decide (k7_3 ≤ ((more2_2.n : Nat) : Int)) && decide (more2_2.n ≤ more2_2.n))) then some () else none : Option Unit).bind fun _ => (bif (decide ((y102.n + (more2_2.n - (Int.toNat k7_3))) ≤ 9223372036854775807) &&
    decide ((y102.n + (more2_2.n - (Int.toNat k7_3))) * 72 ≤ 140737488355328)) then (k0 (y102.n + (more2_2.n - (Int.toNat k7_3))) (y102.n + (more2_2.n - (Int.toNat k7_3))) (fun i =>
    if i < y102.n then (y102.f i) else ((fun i => more2_2.f ((Int.toNat k7_3) + i)) (i - y102.n)))) else none)))) else (go (IntKind.wrap .i64 (k7_3 + 1))))) else k1)
def F_spec_l7Take_H (fu : Nat) (log_0 : (Sl S_impl_Entry)) (index_1 : Int) (more_2 : (Sl S_impl_Entry)) : Option ((Sl S_impl_Entry)) :=
  (L (fun w0 go0 => F_spec_l7Take_H_B0 fu log_0 index_1 more_2 (fun z103 z104 z105 => (some (⟨none, z103, z105⟩ : (Sl S_impl_Entry)))) ((F_spec_l7Copy_H fu log_0).bind fun y106 =>
    (some (⟨none, y106.n, y106.f⟩ : (Sl S_impl_Entry)))) w0 go0) fu (0 : Int))
def pcf_spec_l7Take_H (fu : Nat) (f : Nat) (xs : List (D RT den)) : Option (Out RT den) := none
def pcx_spec_l7Take_H (fu : Nat) (f : Nat) (xs : List (D RT den)) (ins : List (Ob RT den)) : Option (OutX RT den) := match f with | 31 => S_spec_l7Copy_H fu xs ins | _ => none
def pc_spec_l7Take_H (fu : Nat) : Pc RT den := ⟨pcf_spec_l7Take_H fu, fun f => match f with | 31 => true | _ => false, fun _ => false, pcx_spec_l7Take_H fu⟩
def msk_spec_l7Take_H (b : Nat) : List Nat := match b with | 0 => [3, 4, 5, 6, 8, 9, 10, 11, 12, 13, 14, 15, 16, 17, 18, 19, 20, 21, 22, 23, 24, 25, 26, 27, 28, 29, 30, 31, 32, 33, 34, 35, 36, 37, 38, 39, 40, 41, 42, 43, 44] | 100000 => [1, 2, 3, 4, 5, 7, 8, 9, 10, 11, 12, 13, 14, 15, 16, 17, 18, 19, 20, 21, 22, 23, 24, 25, 26, 27, 28, 29, 30, 31, 32, 33, 34, 35, 36, 37, 38, 39, 40, 41, 42, 43, 44] | 200005 => [34] | 300000 => [6] | _ => []
def ps_spec_l7Take_H_0 : List (Pat RT) := [.flat (.rs .impl_Entry), .flat (.int .i64), .flat (.rs .impl_Entry), .flat .dead, .flat .dead, .flat .dead, .flat .dead, .flat (.int .i64), .flat .dead, .flat .dead, .flat .dead, .flat .dead, .flat .dead, .flat .dead, .flat .dead, .flat .dead, .flat .dead, .flat .dead, .flat .dead, .flat .dead, .flat .dead, .flat .dead, .flat .dead, .flat .dead, .flat .dead, .flat .dead, .flat .dead, .flat .dead, .flat .dead, .flat .dead, .flat .dead, .flat .dead, .flat .dead, .flat .dead, .flat .dead, .flat .dead, .flat .dead, .flat .dead, .flat .dead, .flat .dead, .flat .dead, .flat .dead, .flat .dead, .flat .dead, .flat .dead]
def os_spec_l7Take_H_0 : List (OP RT) := []
def conv_spec_l7Take_H_0 (r : Raw den ps_spec_l7Take_H_0 os_spec_l7Take_H_0) : ((Sl S_impl_Entry) × Int × (Sl S_impl_Entry)) × (Int) := ((r.1.1, r.1.2.1, r.1.2.2.1), r.1.2.2.2.2.2.2.2.1)
def back_spec_l7Take_H_0 (c : (Sl S_impl_Entry) × Int × (Sl S_impl_Entry)) (w : Int) : St RT den := ⟨[(.rs c.1.z .impl_Entry c.1.n c.1.f), (.int .i64 c.2.1), (.rs c.2.2.z .impl_Entry c.2.2.n c.2.2.f), .dead, .dead, .dead, .dead, (.int .i64 w), .dead, .dead, .dead, .dead, .dead, .dead, .dead, .dead, .dead, .dead, .dead, .dead, .dead, .dead, .dead, .dead, .dead, .dead, .dead, .dead, .dead, .dead, .dead, .dead, .dead, .dead, .dead, .dead, .dead, .dead, .dead, .dead, .dead, .dead, .dead, .dead, .dead], []⟩
def Bk_spec_l7Take_H_0 {ρ : Type} (fu : Nat) (c : (Sl S_impl_Entry) × Int × (Sl S_impl_Entry)) (k : Ex → St RT den → Option ρ) (w : Int) (go : (Int) → Option ρ) : Option ρ := F_spec_l7Take_H_B0 fu c.1 c.2.1 c.2.2 (fun a0 a1 a2 => k .ret ⟨[(.rs c.1.z .impl_Entry c.1.n c.1.f), .dead, .dead, .dead, .dead, .dead, (.os 0 a0), .dead, .dead, .dead, .dead, .dead, .dead, .dead, .dead, .dead, .dead, .dead, .dead, .dead, .dead, .dead, .dead, .dead, .dead, .dead, .dead, .dead, .dead, .dead, .dead, .dead, .dead, .dead, .dead, .dead, .dead, .dead, .dead, .dead, .dead, .dead, .dead, .dead, .dead], [(.row false .impl_Entry a1 a2)]⟩) (k (.exit 0) ⟨[(.rs c.1.z .impl_Entry c.1.n c.1.f), .dead, .dead, .dead, .dead, .dead, .dead, .dead, .dead, .dead, .dead, .dead, .dead, .dead, .dead, .dead, .dead, .dead, .dead, .dead, .dead, .dead, .dead, .dead, .dead, .dead, .dead, .dead, .dead, .dead, .dead, .dead, .dead, .dead, .dead, .dead, .dead, .dead, .dead, .dead, .dead, .dead, .dead, .dead, .dead], []⟩) w go
def lp_spec_l7Take_H (fu : Nat) : Lp RT den ((Sl S_impl_Entry)) := fun b s k => match b with | 0 => handle ps_spec_l7Take_H_0 os_spec_l7Take_H_0 conv_spec_l7Take_H_0 (Bk_spec_l7Take_H_0 fu) fu s k | _ => none
theorem ev_spec_l7Take_H (fu : Nat) (log_0 : (Sl S_impl_Entry)) (index_1 : Int) (more_2 : (Sl S_impl_Entry)) : evFunX E false (pc_spec_l7Take_H fu) msk_spec_l7Take_H (lp_spec_l7Take_H fu) out_sl_impl_Entry_H 38 [(.rs log_0.z .impl_Entry log_0.n log_0.f), (.int .i64 index_1), (.rs more_2.z .impl_Entry more_2.n more_2.f)] [] = F_spec_l7Take_H fu log_0 index_1 more_2 := by kernel_rfl
noncomputable def body_spec_l7Take_H : Code := Try.f38.body.getD .skip
noncomputable def lc_spec_l7Take_H_0 : Code := ((loops 0 body_spec_l7Take_H).getD 0 (0, .skip)).2
theorem round_spec_l7Take_H_0 (fu : Nat) (it : St RT den → Option ((Sl S_impl_Entry))) (k : Ex → St RT den → Option ((Sl S_impl_Entry))) c w : evCode E (pc_spec_l7Take_H fu) msk_spec_l7Take_H (lp_spec_l7Take_H fu) 0 lc_spec_l7Take_H_0 (back_spec_l7Take_H_0 c w) (after (msk_spec_l7Take_H 0) (msk_spec_l7Take_H 100000) 0 it k) = Bk_spec_l7Take_H_0 fu c k w (fun w => it (back_spec_l7Take_H_0 c w)) := by kernel_rfl
theorem lpok_spec_l7Take_H_0 (fu : Nat) : ∀ s k r, lp_spec_l7Take_H fu 0 s k = some r → ∃ fuel, iter (msk_spec_l7Take_H 0) (msk_spec_l7Take_H 100000) s.objs.length (evCode E (pc_spec_l7Take_H fu) msk_spec_l7Take_H (lp_spec_l7Take_H fu) 0 lc_spec_l7Take_H_0) fuel s k = some r :=
  handle_ok (ps := ps_spec_l7Take_H_0) (os := os_spec_l7Take_H_0) (conv := conv_spec_l7Take_H_0) (B := Bk_spec_l7Take_H_0 fu) (fu := fu) back_spec_l7Take_H_0 (fun raw => by kernel_rfl) 0 (fun c w => by kernel_rfl) (round_spec_l7Take_H_0 fu)
theorem lpok_spec_l7Take_H (fu : Nat) : LpOk E (pc_spec_l7Take_H fu) msk_spec_l7Take_H (lp_spec_l7Take_H fu) (loops 0 body_spec_l7Take_H) := loop_all 1 (by kernel_rfl) fun i hi => match i, hi with
  | 0, _ => by
    have h : (loops 0 body_spec_l7Take_H).getD 0 (0, .skip) = (0, lc_spec_l7Take_H_0) := by kernel_rfl
    rw [h]; exact lpok_spec_l7Take_H_0 fu
  | i + 1, hi => absurd hi (by omega)
def S_spec_l7Take_H (fu : Nat) (xs : List (D RT den)) (ins : List (Ob RT den)) : Option (OutX RT den) := match xs, ins with | [.rs za0_0 .impl_Entry na0_0 fa0_0, .int .i64 a1_0, .rs za2_0 .impl_Entry na2_0 fa2_0], [] => some ⟨(Sl S_impl_Entry), F_spec_l7Take_H fu (⟨za0_0, na0_0, fa0_0⟩ : (Sl S_impl_Entry)) a1_0 (⟨za2_0, na2_0, fa2_0⟩ : (Sl S_impl_Entry)), enc_sl_impl_Entry_H⟩ | _, _ => none
theorem hpc_spec_l7Take_H (fu : Nat) : ∀ f xs o, pcf_spec_l7Take_H fu f xs = some o → ∀ y, o.x = some y → Good E Try.prog f xs (o.g y) := by
  intro f xs o h
  cases h
theorem hpx_spec_l7Take_H (fu : Nat) : ∀ f xs ins o, pcx_spec_l7Take_H fu f xs ins = some o → ∀ y, o.x = some y → GoodX E Try.prog f xs ins (o.g y).1 (o.g y).2 := by
  intro f xs ins o h
  unfold pcx_spec_l7Take_H at h
  split at h
  · exact good_spec_l7Copy_H fu xs ins o h
  · cases h
theorem goodv_spec_l7Take_H (fu : Nat) (log_0 : (Sl S_impl_Entry)) (index_1 : Int) (more_2 : (Sl S_impl_Entry)) (y : (Sl S_impl_Entry)) (hy : F_spec_l7Take_H fu log_0 index_1 more_2 = some y) : GoodX E Try.prog 38 [(.rs log_0.z .impl_Entry log_0.n log_0.f), (.int .i64 index_1), (.rs more_2.z .impl_Entry more_2.n more_2.f)] [] (enc_sl_impl_Entry_H y).1 (enc_sl_impl_Entry_H y).2 :=
  funX_good (ke := false) E_ok (pc_good (pc := pc_spec_l7Take_H fu) (hpc_spec_l7Take_H fu) (hpx_spec_l7Take_H fu)) (fn := Try.f38) (c := body_spec_l7Take_H) (out := out_sl_impl_Entry_H) (y := y) (by kernel_rfl) (by kernel_rfl) (by kernel_rfl) (lpok_spec_l7Take_H fu) (by kernel_rfl) (Nat.zero_le _) (fun d os hd => out_sl_impl_Entry_H_enc d os _ hd) ((ev_spec_l7Take_H fu log_0 index_1 more_2).trans hy)
theorem good_spec_l7Take_H (fu : Nat) : ∀ xs ins o, S_spec_l7Take_H fu xs ins = some o → ∀ y, o.x = some y → GoodX E Try.prog 38 xs ins (o.g y).1 (o.g y).2 := by
  intro xs ins o h y hy
  unfold S_spec_l7Take_H at h
  split at h
  · rename_i za0_0 na0_0 fa0_0 a1_0 za2_0 na2_0 fa2_0
    cases h
    exact goodv_spec_l7Take_H fu (⟨za0_0, na0_0, fa0_0⟩ : (Sl S_impl_Entry)) a1_0 (⟨za2_0, na2_0, fa2_0⟩ : (Sl S_impl_Entry)) y hy
  · cases h

/-! spec.l1In -/
def F_spec_l1In (fu : Nat) (v_0 : Int) (low_1 : Int) (high_2 : Int) : Option (Bool) :=
  (((bif (decide (v_0 ≥ low_1)) then (some (decide (v_0 ≤ high_2))) else (some false)) : Option Bool).bind fun m115 => (some m115))
def pcf_spec_l1In (fu : Nat) (f : Nat) (xs : List (D RT den)) : Option (Out RT den) := none
def pcx_spec_l1In (fu : Nat) (f : Nat) (xs : List (D RT den)) (ins : List (Ob RT den)) : Option (OutX RT den) := none
def pc_spec_l1In (fu : Nat) : Pc RT den := ⟨pcf_spec_l1In fu, fun _ => false, fun _ => false, pcx_spec_l1In fu⟩
def msk_spec_l1In (b : Nat) : List Nat := match b with | 200001 => [6] | _ => []
def lp_spec_l1In (fu : Nat) : Lp RT den (Bool) := fun b s k => none
theorem ev_spec_l1In (fu : Nat) (v_0 : Int) (low_1 : Int) (high_2 : Int) : evFun E (pc_spec_l1In fu) msk_spec_l1In (lp_spec_l1In fu) out_bo 30 [(.int .i64 v_0), (.int .i64 low_1), (.int .i64 high_2)] = F_spec_l1In fu v_0 low_1 high_2 := by kernel_rfl
noncomputable def body_spec_l1In : Code := Try.f30.body.getD .skip
theorem lpok_spec_l1In (fu : Nat) : LpOk E (pc_spec_l1In fu) msk_spec_l1In (lp_spec_l1In fu) (loops 0 body_spec_l1In) := by
  have h : loops 0 body_spec_l1In = [] := by kernel_rfl
  rw [h]; intro p hp; cases hp
def S_spec_l1In (fu : Nat) (xs : List (D RT den)) : Option (Out RT den) := match xs with | [.int .i64 a0_0, .int .i64 a1_0, .int .i64 a2_0] => some ⟨Bool, F_spec_l1In fu a0_0 a1_0 a2_0, enc_bo, fun _ => true⟩ | _ => none
theorem hpc_spec_l1In (fu : Nat) : ∀ f xs o, pcf_spec_l1In fu f xs = some o → ∀ y, o.x = some y → Good E Try.prog f xs (o.g y) := by
  intro f xs o h
  cases h
theorem hpx_spec_l1In (fu : Nat) : ∀ f xs ins o, pcx_spec_l1In fu f xs ins = some o → ∀ y, o.x = some y → GoodX E Try.prog f xs ins (o.g y).1 (o.g y).2 := by
  intro f xs ins o h
  cases h
theorem goodv_spec_l1In (fu : Nat) (v_0 : Int) (low_1 : Int) (high_2 : Int) (y : Bool) (hy : F_spec_l1In fu v_0 low_1 high_2 = some y) : Good E Try.prog 30 [(.int .i64 v_0), (.int .i64 low_1), (.int .i64 high_2)] (enc_bo y) :=
  fun_good E_ok (pc_good (pc := pc_spec_l1In fu) (hpc_spec_l1In fu) (hpx_spec_l1In fu)) (fn := Try.f30) (c := body_spec_l1In) (out := out_bo) (y := y) (by kernel_rfl) (by kernel_rfl) (by kernel_rfl) (lpok_spec_l1In fu) (fun d hd => out_bo_enc d _ hd) ((ev_spec_l1In fu v_0 low_1 high_2).trans hy)
theorem good_spec_l1In (fu : Nat) : ∀ xs o, S_spec_l1In fu xs = some o → ∀ y, o.x = some y → Good E Try.prog 30 xs (o.g y) := by
  intro xs o h y hy
  unfold S_spec_l1In at h
  split at h
  · rename_i a0_0 a1_0 a2_0
    cases h
    exact goodv_spec_l1In fu a0_0 a1_0 a2_0 y hy
  · cases h

/-! spec.l5Needs -/
def F_spec_l5Needs (fu : Nat) (kind_0 : Int) : Option (Bool × Bool × Bool × Bool) :=
  ((F_spec_l1In fu kind_0 5 8).bind fun y151 => (bif (kind_0 != 5) then (bif (kind_0 == 1) then (some ((kind_0 != 6), true, (kind_0 != 4), y151)) else (some ((kind_0 != 6), y151,
    (kind_0 != 4), y151))) else (bif (kind_0 == 1) then (some (false, true, (kind_0 != 4), y151)) else (some (false, y151, (kind_0 != 4), y151)))))
def pcf_spec_l5Needs (fu : Nat) (f : Nat) (xs : List (D RT den)) : Option (Out RT den) := match f with | 30 => S_spec_l1In fu xs | _ => none
def pcx_spec_l5Needs (fu : Nat) (f : Nat) (xs : List (D RT den)) (ins : List (Ob RT den)) : Option (OutX RT den) := none
def pc_spec_l5Needs (fu : Nat) : Pc RT den := ⟨pcf_spec_l5Needs fu, fun _ => false, fun _ => false, pcx_spec_l5Needs fu⟩
def msk_spec_l5Needs (b : Nat) : List Nat := []
def lp_spec_l5Needs (fu : Nat) : Lp RT den (Bool × Bool × Bool × Bool) := fun b s k => none
theorem ev_spec_l5Needs (fu : Nat) (kind_0 : Int) : evFun E (pc_spec_l5Needs fu) msk_spec_l5Needs (lp_spec_l5Needs fu) out_bo_bo_bo_bo 53 [(.int .i64 kind_0)] = F_spec_l5Needs fu kind_0 := by kernel_rfl
noncomputable def body_spec_l5Needs : Code := Try.f53.body.getD .skip
theorem lpok_spec_l5Needs (fu : Nat) : LpOk E (pc_spec_l5Needs fu) msk_spec_l5Needs (lp_spec_l5Needs fu) (loops 0 body_spec_l5Needs) := by
  have h : loops 0 body_spec_l5Needs = [] := by kernel_rfl
  rw [h]; intro p hp; cases hp
def S_spec_l5Needs (fu : Nat) (xs : List (D RT den)) : Option (Out RT den) := match xs with | [.int .i64 a0_0] => some ⟨Bool × Bool × Bool × Bool, F_spec_l5Needs fu a0_0, enc_bo_bo_bo_bo, fun _ => true⟩ | _ => none
theorem hpc_spec_l5Needs (fu : Nat) : ∀ f xs o, pcf_spec_l5Needs fu f xs = some o → ∀ y, o.x = some y → Good E Try.prog f xs (o.g y) := by
  intro f xs o h
  unfold pcf_spec_l5Needs at h
  split at h
  · exact good_spec_l1In fu xs o h
  · cases h
theorem hpx_spec_l5Needs (fu : Nat) : ∀ f xs ins o, pcx_spec_l5Needs fu f xs ins = some o → ∀ y, o.x = some y → GoodX E Try.prog f xs ins (o.g y).1 (o.g y).2 := by
  intro f xs ins o h
  cases h
theorem goodv_spec_l5Needs (fu : Nat) (kind_0 : Int) (y : Bool × Bool × Bool × Bool) (hy : F_spec_l5Needs fu kind_0 = some y) : Good E Try.prog 53 [(.int .i64 kind_0)] (enc_bo_bo_bo_bo y) :=
  fun_good E_ok (pc_good (pc := pc_spec_l5Needs fu) (hpc_spec_l5Needs fu) (hpx_spec_l5Needs fu)) (fn := Try.f53) (c := body_spec_l5Needs) (out := out_bo_bo_bo_bo) (y := y) (by kernel_rfl) (by kernel_rfl) (by kernel_rfl) (lpok_spec_l5Needs fu) (fun d hd => out_bo_bo_bo_bo_enc d _ hd) ((ev_spec_l5Needs fu kind_0).trans hy)
theorem good_spec_l5Needs (fu : Nat) : ∀ xs o, S_spec_l5Needs fu xs = some o → ∀ y, o.x = some y → Good E Try.prog 53 xs (o.g y) := by
  intro xs o h y hy
  unfold S_spec_l5Needs at h
  split at h
  · rename_i a0_0
    cases h
    exact goodv_spec_l5Needs fu a0_0 y hy
  · cases h

/-! spec.l5Version -/
def F_spec_l5Version (fu : Nat) (v_0 : Int) : Option (Bool) :=
  ((F_spec_l1In fu v_0 0 1000000).bind fun y152 => (some y152))
def pcf_spec_l5Version (fu : Nat) (f : Nat) (xs : List (D RT den)) : Option (Out RT den) := match f with | 30 => S_spec_l1In fu xs | _ => none
def pcx_spec_l5Version (fu : Nat) (f : Nat) (xs : List (D RT den)) (ins : List (Ob RT den)) : Option (OutX RT den) := none
def pc_spec_l5Version (fu : Nat) : Pc RT den := ⟨pcf_spec_l5Version fu, fun _ => false, fun _ => false, pcx_spec_l5Version fu⟩
def msk_spec_l5Version (b : Nat) : List Nat := []
def lp_spec_l5Version (fu : Nat) : Lp RT den (Bool) := fun b s k => none
theorem ev_spec_l5Version (fu : Nat) (v_0 : Int) : evFun E (pc_spec_l5Version fu) msk_spec_l5Version (lp_spec_l5Version fu) out_bo 59 [(.int .i64 v_0)] = F_spec_l5Version fu v_0 := by kernel_rfl
noncomputable def body_spec_l5Version : Code := Try.f59.body.getD .skip
theorem lpok_spec_l5Version (fu : Nat) : LpOk E (pc_spec_l5Version fu) msk_spec_l5Version (lp_spec_l5Version fu) (loops 0 body_spec_l5Version) := by
  have h : loops 0 body_spec_l5Version = [] := by kernel_rfl
  rw [h]; intro p hp; cases hp
def S_spec_l5Version (fu : Nat) (xs : List (D RT den)) : Option (Out RT den) := match xs with | [.int .i64 a0_0] => some ⟨Bool, F_spec_l5Version fu a0_0, enc_bo, fun _ => true⟩ | _ => none
theorem hpc_spec_l5Version (fu : Nat) : ∀ f xs o, pcf_spec_l5Version fu f xs = some o → ∀ y, o.x = some y → Good E Try.prog f xs (o.g y) := by
  intro f xs o h
  unfold pcf_spec_l5Version at h
  split at h
  · exact good_spec_l1In fu xs o h
  · cases h
theorem hpx_spec_l5Version (fu : Nat) : ∀ f xs ins o, pcx_spec_l5Version fu f xs ins = some o → ∀ y, o.x = some y → GoodX E Try.prog f xs ins (o.g y).1 (o.g y).2 := by
  intro f xs ins o h
  cases h
theorem goodv_spec_l5Version (fu : Nat) (v_0 : Int) (y : Bool) (hy : F_spec_l5Version fu v_0 = some y) : Good E Try.prog 59 [(.int .i64 v_0)] (enc_bo y) :=
  fun_good E_ok (pc_good (pc := pc_spec_l5Version fu) (hpc_spec_l5Version fu) (hpx_spec_l5Version fu)) (fn := Try.f59) (c := body_spec_l5Version) (out := out_bo) (y := y) (by kernel_rfl) (by kernel_rfl) (by kernel_rfl) (lpok_spec_l5Version fu) (fun d hd => out_bo_enc d _ hd) ((ev_spec_l5Version fu v_0).trans hy)
theorem good_spec_l5Version (fu : Nat) : ∀ xs o, S_spec_l5Version fu xs = some o → ∀ y, o.x = some y → Good E Try.prog 59 xs (o.g y) := by
  intro xs o h y hy
  unfold S_spec_l5Version at h
  split at h
  · rename_i a0_0
    cases h
    exact goodv_spec_l5Version fu a0_0 y hy
  · cases h
end Go.Proofs.Ytokpamekcpbkaaa.Pc
