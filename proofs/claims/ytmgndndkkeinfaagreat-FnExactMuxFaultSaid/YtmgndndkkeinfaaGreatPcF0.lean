/- The functions' evaluated forms, each a proved summary. Conditions: none. -/
import Derived.Test.YtmgndndkkeinfaaGreatPcT
namespace Go.Proofs.YtmgndndkkeinfaaGreat.Pc
open Go Go.RowKit Go.Proofs Vm
set_option linter.unusedVariables false
set_option linter.unusedSimpArgs false
set_option maxRecDepth 100000
/-! laws.toBackend -/
def F_laws_toBackend (fu : Nat) (a_0 : S_impl_Backend) : Option (S_impl_Backend) :=
  (some a_0)
def pcf_laws_toBackend (fu : Nat) (f : Nat) (xs : List (D RT den)) : Option (Out RT den) := none
def pcx_laws_toBackend (fu : Nat) (f : Nat) (xs : List (D RT den)) (ins : List (Ob RT den)) : Option (OutX RT den) := none
def pc_laws_toBackend (fu : Nat) : Pc RT den := ⟨pcf_laws_toBackend fu, fun _ => false, fun _ => false, pcx_laws_toBackend fu⟩
def msk_laws_toBackend (b : Nat) : List Nat := []
def lp_laws_toBackend (fu : Nat) : Lp RT den (S_impl_Backend) := fun b s k => none
theorem ev_laws_toBackend (fu : Nat) (a_0 : S_impl_Backend) : evFun E (pc_laws_toBackend fu) msk_laws_toBackend (lp_laws_toBackend fu) out_impl_Backend 97 [(.agg [(.int .i64 a_0.Name), (.int .i64 a_0.Address), (.int .i64 a_0.Weight), (.int .i64 a_0.Stage), (.bool a_0.Up)])] = F_laws_toBackend fu a_0 := by kernel_rfl
noncomputable def body_laws_toBackend : Code := Tryz.f97.body.getD .skip
theorem lpok_laws_toBackend (fu : Nat) : LpOk E (pc_laws_toBackend fu) msk_laws_toBackend (lp_laws_toBackend fu) (loops 0 body_laws_toBackend) := by
  have h : loops 0 body_laws_toBackend = [] := by kernel_rfl
  rw [h]; intro p hp; cases hp
def S_laws_toBackend (fu : Nat) (xs : List (D RT den)) : Option (Out RT den) := match xs with | [.agg [.int .i64 a0_1, .int .i64 a0_2, .int .i64 a0_3, .int .i64 a0_4, .bool a0_5]] => some ⟨S_impl_Backend, F_laws_toBackend fu (⟨a0_1, a0_2, a0_3, a0_4, a0_5⟩ : S_impl_Backend), enc_impl_Backend, fun _ => true⟩ | _ => none
theorem hpc_laws_toBackend (fu : Nat) : ∀ f xs o, pcf_laws_toBackend fu f xs = some o → ∀ y, o.x = some y → Good E Tryz.prog f xs (o.g y) := by
  intro f xs o h
  cases h
theorem hpx_laws_toBackend (fu : Nat) : ∀ f xs ins o, pcx_laws_toBackend fu f xs ins = some o → ∀ y, o.x = some y → GoodX E Tryz.prog f xs ins (o.g y).1 (o.g y).2 := by
  intro f xs ins o h
  cases h
theorem goodv_laws_toBackend (fu : Nat) (a_0 : S_impl_Backend) (y : S_impl_Backend) (hy : F_laws_toBackend fu a_0 = some y) : Good E Tryz.prog 97 [(.agg [(.int .i64 a_0.Name), (.int .i64 a_0.Address), (.int .i64 a_0.Weight), (.int .i64 a_0.Stage), (.bool a_0.Up)])] (enc_impl_Backend y) :=
  fun_good E_ok (pc_good (pc := pc_laws_toBackend fu) (hpc_laws_toBackend fu) (hpx_laws_toBackend fu)) (fn := Tryz.f97) (c := body_laws_toBackend) (out := out_impl_Backend) (y := y) (by kernel_rfl) (by kernel_rfl) (by kernel_rfl) (lpok_laws_toBackend fu) (fun d hd => out_impl_Backend_enc d _ hd) ((ev_laws_toBackend fu a_0).trans hy)
theorem good_laws_toBackend (fu : Nat) : ∀ xs o, S_laws_toBackend fu xs = some o → ∀ y, o.x = some y → Good E Tryz.prog 97 xs (o.g y) := by
  intro xs o h y hy
  unfold S_laws_toBackend at h
  split at h
  · rename_i a0_1 a0_2 a0_3 a0_4 a0_5
    cases h
    exact goodv_laws_toBackend fu (⟨a0_1, a0_2, a0_3, a0_4, a0_5⟩ : S_impl_Backend) y hy
  · cases h

/-! laws.toFlow -/
def F_laws_toFlow (fu : Nat) (a_0 : S_impl_Flow) : Option (S_impl_Flow) :=
  (some a_0)
def pcf_laws_toFlow (fu : Nat) (f : Nat) (xs : List (D RT den)) : Option (Out RT den) := none
def pcx_laws_toFlow (fu : Nat) (f : Nat) (xs : List (D RT den)) (ins : List (Ob RT den)) : Option (OutX RT den) := none
def pc_laws_toFlow (fu : Nat) : Pc RT den := ⟨pcf_laws_toFlow fu, fun _ => false, fun _ => false, pcx_laws_toFlow fu⟩
def msk_laws_toFlow (b : Nat) : List Nat := []
def lp_laws_toFlow (fu : Nat) : Lp RT den (S_impl_Flow) := fun b s k => none
theorem ev_laws_toFlow (fu : Nat) (a_0 : S_impl_Flow) : evFun E (pc_laws_toFlow fu) msk_laws_toFlow (lp_laws_toFlow fu) out_impl_Flow 11 [(.agg [(.int .i64 a_0.From), (.int .i64 a_0.To), (.int .i64 a_0.Proto), (.int .i64 a_0.FromP), (.int .i64 a_0.ToP)])] = F_laws_toFlow fu a_0 := by kernel_rfl
noncomputable def body_laws_toFlow : Code := Tryz.f11.body.getD .skip
theorem lpok_laws_toFlow (fu : Nat) : LpOk E (pc_laws_toFlow fu) msk_laws_toFlow (lp_laws_toFlow fu) (loops 0 body_laws_toFlow) := by
  have h : loops 0 body_laws_toFlow = [] := by kernel_rfl
  rw [h]; intro p hp; cases hp
def S_laws_toFlow (fu : Nat) (xs : List (D RT den)) : Option (Out RT den) := match xs with | [.agg [.int .i64 a0_1, .int .i64 a0_2, .int .i64 a0_3, .int .i64 a0_4, .int .i64 a0_5]] => some ⟨S_impl_Flow, F_laws_toFlow fu (⟨a0_1, a0_2, a0_3, a0_4, a0_5⟩ : S_impl_Flow), enc_impl_Flow, fun _ => true⟩ | _ => none
theorem hpc_laws_toFlow (fu : Nat) : ∀ f xs o, pcf_laws_toFlow fu f xs = some o → ∀ y, o.x = some y → Good E Tryz.prog f xs (o.g y) := by
  intro f xs o h
  cases h
theorem hpx_laws_toFlow (fu : Nat) : ∀ f xs ins o, pcx_laws_toFlow fu f xs ins = some o → ∀ y, o.x = some y → GoodX E Tryz.prog f xs ins (o.g y).1 (o.g y).2 := by
  intro f xs ins o h
  cases h
theorem goodv_laws_toFlow (fu : Nat) (a_0 : S_impl_Flow) (y : S_impl_Flow) (hy : F_laws_toFlow fu a_0 = some y) : Good E Tryz.prog 11 [(.agg [(.int .i64 a_0.From), (.int .i64 a_0.To), (.int .i64 a_0.Proto), (.int .i64 a_0.FromP), (.int .i64 a_0.ToP)])] (enc_impl_Flow y) :=
  fun_good E_ok (pc_good (pc := pc_laws_toFlow fu) (hpc_laws_toFlow fu) (hpx_laws_toFlow fu)) (fn := Tryz.f11) (c := body_laws_toFlow) (out := out_impl_Flow) (y := y) (by kernel_rfl) (by kernel_rfl) (by kernel_rfl) (lpok_laws_toFlow fu) (fun d hd => out_impl_Flow_enc d _ hd) ((ev_laws_toFlow fu a_0).trans hy)
theorem good_laws_toFlow (fu : Nat) : ∀ xs o, S_laws_toFlow fu xs = some o → ∀ y, o.x = some y → Good E Tryz.prog 11 xs (o.g y) := by
  intro xs o h y hy
  unfold S_laws_toFlow at h
  split at h
  · rename_i a0_1 a0_2 a0_3 a0_4 a0_5
    cases h
    exact goodv_laws_toFlow fu (⟨a0_1, a0_2, a0_3, a0_4, a0_5⟩ : S_impl_Flow) y hy
  · cases h

/-! laws.toHeld -/
def F_laws_toHeld (fu : Nat) (a_0 : S_laws_Held) : Option (S_impl_Held) :=
  ((F_laws_toFlow fu a_0.Flow).bind fun y26 => (some (⟨y26, a_0.Name, a_0.Seen⟩ : S_impl_Held)))
def pcf_laws_toHeld (fu : Nat) (f : Nat) (xs : List (D RT den)) : Option (Out RT den) := match f with | 11 => S_laws_toFlow fu xs | _ => none
def pcx_laws_toHeld (fu : Nat) (f : Nat) (xs : List (D RT den)) (ins : List (Ob RT den)) : Option (OutX RT den) := none
def pc_laws_toHeld (fu : Nat) : Pc RT den := ⟨pcf_laws_toHeld fu, fun _ => false, fun _ => false, pcx_laws_toHeld fu⟩
def msk_laws_toHeld (b : Nat) : List Nat := []
def lp_laws_toHeld (fu : Nat) : Lp RT den (S_impl_Held) := fun b s k => none
theorem ev_laws_toHeld (fu : Nat) (a_0 : S_laws_Held) : evFun E (pc_laws_toHeld fu) msk_laws_toHeld (lp_laws_toHeld fu) out_impl_Held 47 [(.agg [(.int .i64 a_0.Flow.From), (.int .i64 a_0.Flow.To), (.int .i64 a_0.Flow.Proto), (.int .i64 a_0.Flow.FromP), (.int .i64 a_0.Flow.ToP), (.int .i64 a_0.Name), (.int .i64 a_0.Seen)])] = F_laws_toHeld fu a_0 := by kernel_rfl
noncomputable def body_laws_toHeld : Code := Tryz.f47.body.getD .skip
theorem lpok_laws_toHeld (fu : Nat) : LpOk E (pc_laws_toHeld fu) msk_laws_toHeld (lp_laws_toHeld fu) (loops 0 body_laws_toHeld) := by
  have h : loops 0 body_laws_toHeld = [] := by kernel_rfl
  rw [h]; intro p hp; cases hp
def S_laws_toHeld (fu : Nat) (xs : List (D RT den)) : Option (Out RT den) := match xs with | [.agg [.int .i64 a0_2, .int .i64 a0_3, .int .i64 a0_4, .int .i64 a0_5, .int .i64 a0_6, .int .i64 a0_7, .int .i64 a0_8]] => some ⟨S_impl_Held, F_laws_toHeld fu (⟨(⟨a0_2, a0_3, a0_4, a0_5, a0_6⟩ : S_impl_Flow), a0_7, a0_8⟩ : S_laws_Held), enc_impl_Held, fun _ => true⟩ | _ => none
theorem hpc_laws_toHeld (fu : Nat) : ∀ f xs o, pcf_laws_toHeld fu f xs = some o → ∀ y, o.x = some y → Good E Tryz.prog f xs (o.g y) := by
  intro f xs o h
  unfold pcf_laws_toHeld at h
  split at h
  · exact good_laws_toFlow fu xs o h
  · cases h
theorem hpx_laws_toHeld (fu : Nat) : ∀ f xs ins o, pcx_laws_toHeld fu f xs ins = some o → ∀ y, o.x = some y → GoodX E Tryz.prog f xs ins (o.g y).1 (o.g y).2 := by
  intro f xs ins o h
  cases h
theorem goodv_laws_toHeld (fu : Nat) (a_0 : S_laws_Held) (y : S_impl_Held) (hy : F_laws_toHeld fu a_0 = some y) : Good E Tryz.prog 47 [(.agg [(.int .i64 a_0.Flow.From), (.int .i64 a_0.Flow.To), (.int .i64 a_0.Flow.Proto), (.int .i64 a_0.Flow.FromP), (.int .i64 a_0.Flow.ToP), (.int .i64 a_0.Name), (.int .i64 a_0.Seen)])] (enc_impl_Held y) :=
  fun_good E_ok (pc_good (pc := pc_laws_toHeld fu) (hpc_laws_toHeld fu) (hpx_laws_toHeld fu)) (fn := Tryz.f47) (c := body_laws_toHeld) (out := out_impl_Held) (y := y) (by kernel_rfl) (by kernel_rfl) (by kernel_rfl) (lpok_laws_toHeld fu) (fun d hd => out_impl_Held_enc d _ hd) ((ev_laws_toHeld fu a_0).trans hy)
theorem good_laws_toHeld (fu : Nat) : ∀ xs o, S_laws_toHeld fu xs = some o → ∀ y, o.x = some y → Good E Tryz.prog 47 xs (o.g y) := by
  intro xs o h y hy
  unfold S_laws_toHeld at h
  split at h
  · rename_i a0_2 a0_3 a0_4 a0_5 a0_6 a0_7 a0_8
    cases h
    exact goodv_laws_toHeld fu (⟨(⟨a0_2, a0_3, a0_4, a0_5, a0_6⟩ : S_impl_Flow), a0_7, a0_8⟩ : S_laws_Held) y hy
  · cases h

/-! laws.szBackendS -/
def F_laws_szBackendS (fu : Nat) (a_0 : (Sl S_impl_Backend)) (left_1 : Int) : Option (Int) :=
  (bif (decide ((IntKind.wrap .i64 (left_1 - ((a_0.n : Nat) : Int))) < 0)) then (some (-1)) else (some (IntKind.wrap .i64 (left_1 - ((a_0.n : Nat) : Int)))))
def pcf_laws_szBackendS (fu : Nat) (f : Nat) (xs : List (D RT den)) : Option (Out RT den) := none
def pcx_laws_szBackendS (fu : Nat) (f : Nat) (xs : List (D RT den)) (ins : List (Ob RT den)) : Option (OutX RT den) := none
def pc_laws_szBackendS (fu : Nat) : Pc RT den := ⟨pcf_laws_szBackendS fu, fun _ => false, fun _ => false, pcx_laws_szBackendS fu⟩
def msk_laws_szBackendS (b : Nat) : List Nat := []
def lp_laws_szBackendS (fu : Nat) : Lp RT den (Int) := fun b s k => none
theorem ev_laws_szBackendS (fu : Nat) (a_0 : (Sl S_impl_Backend)) (left_1 : Int) : evFun E (pc_laws_szBackendS fu) msk_laws_szBackendS (lp_laws_szBackendS fu) out_i64 62 [(.rs a_0.z .impl_Backend a_0.n a_0.f), (.int .i64 left_1)] = F_laws_szBackendS fu a_0 left_1 := by kernel_rfl
noncomputable def body_laws_szBackendS : Code := Tryz.f62.body.getD .skip
theorem lpok_laws_szBackendS (fu : Nat) : LpOk E (pc_laws_szBackendS fu) msk_laws_szBackendS (lp_laws_szBackendS fu) (loops 0 body_laws_szBackendS) := by
  have h : loops 0 body_laws_szBackendS = [] := by kernel_rfl
  rw [h]; intro p hp; cases hp
def S_laws_szBackendS (fu : Nat) (xs : List (D RT den)) : Option (Out RT den) := match xs with | [.rs za0_0 .impl_Backend na0_0 fa0_0, .int .i64 a1_0] => some ⟨Int, F_laws_szBackendS fu (⟨za0_0, na0_0, fa0_0⟩ : (Sl S_impl_Backend)) a1_0, enc_i64, fun _ => true⟩ | _ => none
theorem hpc_laws_szBackendS (fu : Nat) : ∀ f xs o, pcf_laws_szBackendS fu f xs = some o → ∀ y, o.x = some y → Good E Tryz.prog f xs (o.g y) := by
  intro f xs o h
  cases h
theorem hpx_laws_szBackendS (fu : Nat) : ∀ f xs ins o, pcx_laws_szBackendS fu f xs ins = some o → ∀ y, o.x = some y → GoodX E Tryz.prog f xs ins (o.g y).1 (o.g y).2 := by
  intro f xs ins o h
  cases h
theorem goodv_laws_szBackendS (fu : Nat) (a_0 : (Sl S_impl_Backend)) (left_1 : Int) (y : Int) (hy : F_laws_szBackendS fu a_0 left_1 = some y) : Good E Tryz.prog 62 [(.rs a_0.z .impl_Backend a_0.n a_0.f), (.int .i64 left_1)] (enc_i64 y) :=
  fun_good E_ok (pc_good (pc := pc_laws_szBackendS fu) (hpc_laws_szBackendS fu) (hpx_laws_szBackendS fu)) (fn := Tryz.f62) (c := body_laws_szBackendS) (out := out_i64) (y := y) (by kernel_rfl) (by kernel_rfl) (by kernel_rfl) (lpok_laws_szBackendS fu) (fun d hd => out_i64_enc d _ hd) ((ev_laws_szBackendS fu a_0 left_1).trans hy)
theorem good_laws_szBackendS (fu : Nat) : ∀ xs o, S_laws_szBackendS fu xs = some o → ∀ y, o.x = some y → Good E Tryz.prog 62 xs (o.g y) := by
  intro xs o h y hy
  unfold S_laws_szBackendS at h
  split at h
  · rename_i za0_0 na0_0 fa0_0 a1_0
    cases h
    exact goodv_laws_szBackendS fu (⟨za0_0, na0_0, fa0_0⟩ : (Sl S_impl_Backend)) a1_0 y hy
  · cases h

/-! laws.szInt64S -/
def F_laws_szInt64S (fu : Nat) (a_0 : (Sl Int)) (left_1 : Int) : Option (Int) :=
  (bif (decide ((IntKind.wrap .i64 (left_1 - ((a_0.n : Nat) : Int))) < 0)) then (some (-1)) else (some (IntKind.wrap .i64 (left_1 - ((a_0.n : Nat) : Int)))))
def pcf_laws_szInt64S (fu : Nat) (f : Nat) (xs : List (D RT den)) : Option (Out RT den) := none
def pcx_laws_szInt64S (fu : Nat) (f : Nat) (xs : List (D RT den)) (ins : List (Ob RT den)) : Option (OutX RT den) := none
def pc_laws_szInt64S (fu : Nat) : Pc RT den := ⟨pcf_laws_szInt64S fu, fun _ => false, fun _ => false, pcx_laws_szInt64S fu⟩
def msk_laws_szInt64S (b : Nat) : List Nat := []
def lp_laws_szInt64S (fu : Nat) : Lp RT den (Int) := fun b s k => none
theorem ev_laws_szInt64S (fu : Nat) (a_0 : (Sl Int)) (left_1 : Int) : evFun E (pc_laws_szInt64S fu) msk_laws_szInt64S (lp_laws_szInt64S fu) out_i64 38 [(.rs a_0.z .i64 a_0.n a_0.f), (.int .i64 left_1)] = F_laws_szInt64S fu a_0 left_1 := by kernel_rfl
noncomputable def body_laws_szInt64S : Code := Tryz.f38.body.getD .skip
theorem lpok_laws_szInt64S (fu : Nat) : LpOk E (pc_laws_szInt64S fu) msk_laws_szInt64S (lp_laws_szInt64S fu) (loops 0 body_laws_szInt64S) := by
  have h : loops 0 body_laws_szInt64S = [] := by kernel_rfl
  rw [h]; intro p hp; cases hp
def S_laws_szInt64S (fu : Nat) (xs : List (D RT den)) : Option (Out RT den) := match xs with | [.rs za0_0 .i64 na0_0 fa0_0, .int .i64 a1_0] => some ⟨Int, F_laws_szInt64S fu (⟨za0_0, na0_0, fa0_0⟩ : (Sl Int)) a1_0, enc_i64, fun _ => true⟩ | _ => none
theorem hpc_laws_szInt64S (fu : Nat) : ∀ f xs o, pcf_laws_szInt64S fu f xs = some o → ∀ y, o.x = some y → Good E Tryz.prog f xs (o.g y) := by
  intro f xs o h
  cases h
theorem hpx_laws_szInt64S (fu : Nat) : ∀ f xs ins o, pcx_laws_szInt64S fu f xs ins = some o → ∀ y, o.x = some y → GoodX E Tryz.prog f xs ins (o.g y).1 (o.g y).2 := by
  intro f xs ins o h
  cases h
theorem goodv_laws_szInt64S (fu : Nat) (a_0 : (Sl Int)) (left_1 : Int) (y : Int) (hy : F_laws_szInt64S fu a_0 left_1 = some y) : Good E Tryz.prog 38 [(.rs a_0.z .i64 a_0.n a_0.f), (.int .i64 left_1)] (enc_i64 y) :=
  fun_good E_ok (pc_good (pc := pc_laws_szInt64S fu) (hpc_laws_szInt64S fu) (hpx_laws_szInt64S fu)) (fn := Tryz.f38) (c := body_laws_szInt64S) (out := out_i64) (y := y) (by kernel_rfl) (by kernel_rfl) (by kernel_rfl) (lpok_laws_szInt64S fu) (fun d hd => out_i64_enc d _ hd) ((ev_laws_szInt64S fu a_0 left_1).trans hy)
theorem good_laws_szInt64S (fu : Nat) : ∀ xs o, S_laws_szInt64S fu xs = some o → ∀ y, o.x = some y → Good E Tryz.prog 38 xs (o.g y) := by
  intro xs o h y hy
  unfold S_laws_szInt64S at h
  split at h
  · rename_i za0_0 na0_0 fa0_0 a1_0
    cases h
    exact goodv_laws_szInt64S fu (⟨za0_0, na0_0, fa0_0⟩ : (Sl Int)) a1_0 y hy
  · cases h

/-! laws.szVip -/
def F_laws_szVip (fu : Nat) (a_0 : S_impl_Vip) (left_1 : Int) : Option (Int) :=
  ((F_laws_szInt64S fu a_0.Names left_1).bind fun y46 => (bif (decide (y46 < 0)) then (some (-1)) else (some y46)))
def pcf_laws_szVip (fu : Nat) (f : Nat) (xs : List (D RT den)) : Option (Out RT den) := match f with | 38 => S_laws_szInt64S fu xs | _ => none
def pcx_laws_szVip (fu : Nat) (f : Nat) (xs : List (D RT den)) (ins : List (Ob RT den)) : Option (OutX RT den) := none
def pc_laws_szVip (fu : Nat) : Pc RT den := ⟨pcf_laws_szVip fu, fun _ => false, fun _ => false, pcx_laws_szVip fu⟩
def msk_laws_szVip (b : Nat) : List Nat := []
def lp_laws_szVip (fu : Nat) : Lp RT den (Int) := fun b s k => none
theorem ev_laws_szVip (fu : Nat) (a_0 : S_impl_Vip) (left_1 : Int) : evFun E (pc_laws_szVip fu) msk_laws_szVip (lp_laws_szVip fu) out_i64 88 [(.agg [(.int .i64 a_0.Address), (.int .i64 a_0.Port), (.int .i64 a_0.Proto), (.rs a_0.Names.z .i64 a_0.Names.n a_0.Names.f)]), (.int .i64 left_1)] = F_laws_szVip fu a_0 left_1 := by kernel_rfl
noncomputable def body_laws_szVip : Code := Tryz.f88.body.getD .skip
theorem lpok_laws_szVip (fu : Nat) : LpOk E (pc_laws_szVip fu) msk_laws_szVip (lp_laws_szVip fu) (loops 0 body_laws_szVip) := by
  have h : loops 0 body_laws_szVip = [] := by kernel_rfl
  rw [h]; intro p hp; cases hp
def S_laws_szVip (fu : Nat) (xs : List (D RT den)) : Option (Out RT den) := match xs with | [.agg [.int .i64 a0_1, .int .i64 a0_2, .int .i64 a0_3, .rs za0_4 .i64 na0_4 fa0_4], .int .i64 a1_0] => some ⟨Int, F_laws_szVip fu (⟨a0_1, a0_2, a0_3, (⟨za0_4, na0_4, fa0_4⟩ : (Sl Int))⟩ : S_impl_Vip) a1_0, enc_i64, fun _ => true⟩ | _ => none
theorem hpc_laws_szVip (fu : Nat) : ∀ f xs o, pcf_laws_szVip fu f xs = some o → ∀ y, o.x = some y → Good E Tryz.prog f xs (o.g y) := by
  intro f xs o h
  unfold pcf_laws_szVip at h
  split at h
  · exact good_laws_szInt64S fu xs o h
  · cases h
theorem hpx_laws_szVip (fu : Nat) : ∀ f xs ins o, pcx_laws_szVip fu f xs ins = some o → ∀ y, o.x = some y → GoodX E Tryz.prog f xs ins (o.g y).1 (o.g y).2 := by
  intro f xs ins o h
  cases h
theorem goodv_laws_szVip (fu : Nat) (a_0 : S_impl_Vip) (left_1 : Int) (y : Int) (hy : F_laws_szVip fu a_0 left_1 = some y) : Good E Tryz.prog 88 [(.agg [(.int .i64 a_0.Address), (.int .i64 a_0.Port), (.int .i64 a_0.Proto), (.rs a_0.Names.z .i64 a_0.Names.n a_0.Names.f)]), (.int .i64 left_1)] (enc_i64 y) :=
  fun_good E_ok (pc_good (pc := pc_laws_szVip fu) (hpc_laws_szVip fu) (hpx_laws_szVip fu)) (fn := Tryz.f88) (c := body_laws_szVip) (out := out_i64) (y := y) (by kernel_rfl) (by kernel_rfl) (by kernel_rfl) (lpok_laws_szVip fu) (fun d hd => out_i64_enc d _ hd) ((ev_laws_szVip fu a_0 left_1).trans hy)
theorem good_laws_szVip (fu : Nat) : ∀ xs o, S_laws_szVip fu xs = some o → ∀ y, o.x = some y → Good E Tryz.prog 88 xs (o.g y) := by
  intro xs o h y hy
  unfold S_laws_szVip at h
  split at h
  · rename_i a0_1 a0_2 a0_3 za0_4 na0_4 fa0_4 a1_0
    cases h
    exact goodv_laws_szVip fu (⟨a0_1, a0_2, a0_3, (⟨za0_4, na0_4, fa0_4⟩ : (Sl Int))⟩ : S_impl_Vip) a1_0 y hy
  · cases h

/-! laws.szVipS -/
def F_laws_szVipS_B0 {ρ : Type} (fu : Nat) (a0_0 : (Sl S_impl_Vip)) (k0 : Int → Option ρ) (k1 : Int → Option ρ) (left1_1 : Int) (i5_2 : Int) (go : Int → Int → Option ρ) : Option ρ :=
  (bif (decide (i5_2 < ((a0_0.n : Nat) : Int))) then ((bif (decide (0 ≤ i5_2) && decide ((Int.toNat i5_2) < a0_0.n)) then some () else none : Option Unit).bind fun _ =>
    ((F_laws_szVip fu (a0_0.f (Int.toNat i5_2)) left1_1).bind fun y43 => (bif (decide (y43 < 0)) then (k0 y43) else (go y43 (IntKind.wrap .i64 (i5_2 + 1)))))) else (k1 left1_1))
def F_laws_szVipS (fu : Nat) (a_0 : (Sl S_impl_Vip)) (left_1 : Int) : Option (Int) :=
  (bif (decide ((IntKind.wrap .i64 (left_1 - ((a_0.n : Nat) : Int))) < 0)) then (some (-1)) else (L (fun w0 go0 => F_laws_szVipS_B0 fu a_0 (fun z44 => (some (-1))) (fun z45 => (some z45)) w0.1 w0.2 (fun q0 q1 =>
    go0 (q0, q1))) fu (((IntKind.wrap .i64 (left_1 - ((a_0.n : Nat) : Int))), 0) : Int × Int)))
def pcf_laws_szVipS (fu : Nat) (f : Nat) (xs : List (D RT den)) : Option (Out RT den) := match f with | 88 => S_laws_szVip fu xs | _ => none
def pcx_laws_szVipS (fu : Nat) (f : Nat) (xs : List (D RT den)) (ins : List (Ob RT den)) : Option (OutX RT den) := none
def pc_laws_szVipS (fu : Nat) : Pc RT den := ⟨pcf_laws_szVipS fu, fun _ => false, fun _ => false, pcx_laws_szVipS fu⟩
def msk_laws_szVipS (b : Nat) : List Nat := match b with | 0 => [2, 3, 4, 6, 7, 8, 9, 10, 11, 12, 13, 14, 15, 16, 17, 18, 19, 20, 21, 22, 23, 24, 25, 26] | 100000 => [0, 2, 3, 5, 6, 7, 8, 9, 10, 11, 12, 13, 14, 15, 16, 17, 18, 19, 20, 21, 22, 23, 24, 25, 26] | _ => []
def ps_laws_szVipS_0 : List (Pat RT) := [.flat (.rs .impl_Vip), .flat (.int .i64), .flat .dead, .flat .dead, .flat .dead, .flat (.int .i64), .flat .dead, .flat .dead, .flat .dead, .flat .dead, .flat .dead, .flat .dead, .flat .dead, .flat .dead, .flat .dead, .flat .dead, .flat .dead, .flat .dead, .flat .dead, .flat .dead, .flat .dead, .flat .dead, .flat .dead, .flat .dead, .flat .dead, .flat .dead, .flat .dead]
def os_laws_szVipS_0 : List (OP RT) := []
def conv_laws_szVipS_0 (r : Raw den ps_laws_szVipS_0 os_laws_szVipS_0) : ((Sl S_impl_Vip)) × (Int × Int) := (r.1.1, (r.1.2.1, r.1.2.2.2.2.2.1))
def back_laws_szVipS_0 (c : (Sl S_impl_Vip)) (w : Int × Int) : St RT den := ⟨[(.rs c.z .impl_Vip c.n c.f), (.int .i64 w.1), .dead, .dead, .dead, (.int .i64 w.2), .dead, .dead, .dead, .dead, .dead, .dead, .dead, .dead, .dead, .dead, .dead, .dead, .dead, .dead, .dead, .dead, .dead, .dead, .dead, .dead, .dead], []⟩
def Bk_laws_szVipS_0 {ρ : Type} (fu : Nat) (c : (Sl S_impl_Vip)) (k : Ex → St RT den → Option ρ) (w : Int × Int) (go : (Int × Int) → Option ρ) : Option ρ := F_laws_szVipS_B0 fu c (fun a0 => k .ret ⟨[.dead, (.int .i64 a0), .dead, .dead, (.int .i64 (-1)), .dead, .dead, .dead, .dead, .dead, .dead, .dead, .dead, .dead, .dead, .dead, .dead, .dead, .dead, .dead, .dead, .dead, .dead, .dead, .dead, .dead, .dead], []⟩) (fun a0 => k (.exit 0) ⟨[.dead, (.int .i64 a0), .dead, .dead, .dead, .dead, .dead, .dead, .dead, .dead, .dead, .dead, .dead, .dead, .dead, .dead, .dead, .dead, .dead, .dead, .dead, .dead, .dead, .dead, .dead, .dead, .dead], []⟩) w.1 w.2 (fun q0 q1 => go (q0, q1))
def lp_laws_szVipS (fu : Nat) : Lp RT den (Int) := fun b s k => match b with | 0 => handle ps_laws_szVipS_0 os_laws_szVipS_0 conv_laws_szVipS_0 (Bk_laws_szVipS_0 fu) fu s k | _ => none
theorem ev_laws_szVipS (fu : Nat) (a_0 : (Sl S_impl_Vip)) (left_1 : Int) : evFun E (pc_laws_szVipS fu) msk_laws_szVipS (lp_laws_szVipS fu) out_i64 63 [(.rs a_0.z .impl_Vip a_0.n a_0.f), (.int .i64 left_1)] = F_laws_szVipS fu a_0 left_1 := by kernel_rfl
noncomputable def body_laws_szVipS : Code := Tryz.f63.body.getD .skip
noncomputable def lc_laws_szVipS_0 : Code := ((loops 0 body_laws_szVipS).getD 0 (0, .skip)).2
theorem round_laws_szVipS_0 (fu : Nat) (it : St RT den → Option (Int)) (k : Ex → St RT den → Option (Int)) c w : evCode E (pc_laws_szVipS fu) msk_laws_szVipS (lp_laws_szVipS fu) 0 lc_laws_szVipS_0 (back_laws_szVipS_0 c w) (after (msk_laws_szVipS 0) (msk_laws_szVipS 100000) 0 it k) = Bk_laws_szVipS_0 fu c k w (fun w => it (back_laws_szVipS_0 c w)) := by kernel_rfl
theorem lpok_laws_szVipS_0 (fu : Nat) : ∀ s k r, lp_laws_szVipS fu 0 s k = some r → ∃ fuel, iter (msk_laws_szVipS 0) (msk_laws_szVipS 100000) s.objs.length (evCode E (pc_laws_szVipS fu) msk_laws_szVipS (lp_laws_szVipS fu) 0 lc_laws_szVipS_0) fuel s k = some r :=
  handle_ok (ps := ps_laws_szVipS_0) (os := os_laws_szVipS_0) (conv := conv_laws_szVipS_0) (B := Bk_laws_szVipS_0 fu) (fu := fu) back_laws_szVipS_0 (fun raw => by kernel_rfl) 0 (fun c w => by kernel_rfl) (round_laws_szVipS_0 fu)
theorem lpok_laws_szVipS (fu : Nat) : LpOk E (pc_laws_szVipS fu) msk_laws_szVipS (lp_laws_szVipS fu) (loops 0 body_laws_szVipS) := loop_all 1 (by kernel_rfl) fun i hi => match i, hi with
  | 0, _ => by
    have h : (loops 0 body_laws_szVipS).getD 0 (0, .skip) = (0, lc_laws_szVipS_0) := by kernel_rfl
    rw [h]; exact lpok_laws_szVipS_0 fu
  | i + 1, hi => absurd hi (by omega)
def S_laws_szVipS (fu : Nat) (xs : List (D RT den)) : Option (Out RT den) := match xs with | [.rs za0_0 .impl_Vip na0_0 fa0_0, .int .i64 a1_0] => some ⟨Int, F_laws_szVipS fu (⟨za0_0, na0_0, fa0_0⟩ : (Sl S_impl_Vip)) a1_0, enc_i64, fun _ => true⟩ | _ => none
theorem hpc_laws_szVipS (fu : Nat) : ∀ f xs o, pcf_laws_szVipS fu f xs = some o → ∀ y, o.x = some y → Good E Tryz.prog f xs (o.g y) := by
  intro f xs o h
  unfold pcf_laws_szVipS at h
  split at h
  · exact good_laws_szVip fu xs o h
  · cases h
theorem hpx_laws_szVipS (fu : Nat) : ∀ f xs ins o, pcx_laws_szVipS fu f xs ins = some o → ∀ y, o.x = some y → GoodX E Tryz.prog f xs ins (o.g y).1 (o.g y).2 := by
  intro f xs ins o h
  cases h
theorem goodv_laws_szVipS (fu : Nat) (a_0 : (Sl S_impl_Vip)) (left_1 : Int) (y : Int) (hy : F_laws_szVipS fu a_0 left_1 = some y) : Good E Tryz.prog 63 [(.rs a_0.z .impl_Vip a_0.n a_0.f), (.int .i64 left_1)] (enc_i64 y) :=
  fun_good E_ok (pc_good (pc := pc_laws_szVipS fu) (hpc_laws_szVipS fu) (hpx_laws_szVipS fu)) (fn := Tryz.f63) (c := body_laws_szVipS) (out := out_i64) (y := y) (by kernel_rfl) (by kernel_rfl) (by kernel_rfl) (lpok_laws_szVipS fu) (fun d hd => out_i64_enc d _ hd) ((ev_laws_szVipS fu a_0 left_1).trans hy)
theorem good_laws_szVipS (fu : Nat) : ∀ xs o, S_laws_szVipS fu xs = some o → ∀ y, o.x = some y → Good E Tryz.prog 63 xs (o.g y) := by
  intro xs o h y hy
  unfold S_laws_szVipS at h
  split at h
  · rename_i za0_0 na0_0 fa0_0 a1_0
    cases h
    exact goodv_laws_szVipS fu (⟨za0_0, na0_0, fa0_0⟩ : (Sl S_impl_Vip)) a1_0 y hy
  · cases h

/-! laws.szConfig -/
def F_laws_szConfig (fu : Nat) (a_0 : S_laws_Config) (left_1 : Int) : Option (Int) :=
  ((F_laws_szBackendS fu a_0.Backends left_1).bind fun y41 => (bif (decide (y41 < 0)) then (some (-1)) else ((F_laws_szVipS fu a_0.Vips y41).bind fun y42 => (bif (decide (y42 < 0)) then
    (some (-1)) else (some y42)))))
def pcf_laws_szConfig (fu : Nat) (f : Nat) (xs : List (D RT den)) : Option (Out RT den) := match f with | 62 => S_laws_szBackendS fu xs | 63 => S_laws_szVipS fu xs | _ => none
def pcx_laws_szConfig (fu : Nat) (f : Nat) (xs : List (D RT den)) (ins : List (Ob RT den)) : Option (OutX RT den) := none
def pc_laws_szConfig (fu : Nat) : Pc RT den := ⟨pcf_laws_szConfig fu, fun _ => false, fun _ => false, pcx_laws_szConfig fu⟩
def msk_laws_szConfig (b : Nat) : List Nat := []
def lp_laws_szConfig (fu : Nat) : Lp RT den (Int) := fun b s k => none
theorem ev_laws_szConfig (fu : Nat) (a_0 : S_laws_Config) (left_1 : Int) : evFun E (pc_laws_szConfig fu) msk_laws_szConfig (lp_laws_szConfig fu) out_i64 37 [(.agg [(.int .i64 a_0.Version), (.rs a_0.Backends.z .impl_Backend a_0.Backends.n a_0.Backends.f), (.rs a_0.Vips.z .impl_Vip a_0.Vips.n a_0.Vips.f)]), (.int .i64 left_1)] = F_laws_szConfig fu a_0 left_1 := by kernel_rfl
noncomputable def body_laws_szConfig : Code := Tryz.f37.body.getD .skip
theorem lpok_laws_szConfig (fu : Nat) : LpOk E (pc_laws_szConfig fu) msk_laws_szConfig (lp_laws_szConfig fu) (loops 0 body_laws_szConfig) := by
  have h : loops 0 body_laws_szConfig = [] := by kernel_rfl
  rw [h]; intro p hp; cases hp
def S_laws_szConfig (fu : Nat) (xs : List (D RT den)) : Option (Out RT den) := match xs with | [.agg [.int .i64 a0_1, .rs za0_2 .impl_Backend na0_2 fa0_2, .rs za0_3 .impl_Vip na0_3 fa0_3], .int .i64 a1_0] => some ⟨Int, F_laws_szConfig fu (⟨a0_1, (⟨za0_2, na0_2, fa0_2⟩ : (Sl S_impl_Backend)), (⟨za0_3, na0_3, fa0_3⟩ : (Sl S_impl_Vip))⟩ : S_laws_Config) a1_0, enc_i64, fun _ => true⟩ | _ => none
theorem hpc_laws_szConfig (fu : Nat) : ∀ f xs o, pcf_laws_szConfig fu f xs = some o → ∀ y, o.x = some y → Good E Tryz.prog f xs (o.g y) := by
  intro f xs o h
  unfold pcf_laws_szConfig at h
  split at h
  · exact good_laws_szBackendS fu xs o h
  · exact good_laws_szVipS fu xs o h
  · cases h
theorem hpx_laws_szConfig (fu : Nat) : ∀ f xs ins o, pcx_laws_szConfig fu f xs ins = some o → ∀ y, o.x = some y → GoodX E Tryz.prog f xs ins (o.g y).1 (o.g y).2 := by
  intro f xs ins o h
  cases h
theorem goodv_laws_szConfig (fu : Nat) (a_0 : S_laws_Config) (left_1 : Int) (y : Int) (hy : F_laws_szConfig fu a_0 left_1 = some y) : Good E Tryz.prog 37 [(.agg [(.int .i64 a_0.Version), (.rs a_0.Backends.z .impl_Backend a_0.Backends.n a_0.Backends.f), (.rs a_0.Vips.z .impl_Vip a_0.Vips.n a_0.Vips.f)]), (.int .i64 left_1)] (enc_i64 y) :=
  fun_good E_ok (pc_good (pc := pc_laws_szConfig fu) (hpc_laws_szConfig fu) (hpx_laws_szConfig fu)) (fn := Tryz.f37) (c := body_laws_szConfig) (out := out_i64) (y := y) (by kernel_rfl) (by kernel_rfl) (by kernel_rfl) (lpok_laws_szConfig fu) (fun d hd => out_i64_enc d _ hd) ((ev_laws_szConfig fu a_0 left_1).trans hy)
theorem good_laws_szConfig (fu : Nat) : ∀ xs o, S_laws_szConfig fu xs = some o → ∀ y, o.x = some y → Good E Tryz.prog 37 xs (o.g y) := by
  intro xs o h y hy
  unfold S_laws_szConfig at h
  split at h
  · rename_i a0_1 za0_2 na0_2 fa0_2 za0_3 na0_3 fa0_3 a1_0
    cases h
    exact goodv_laws_szConfig fu (⟨a0_1, (⟨za0_2, na0_2, fa0_2⟩ : (Sl S_impl_Backend)), (⟨za0_3, na0_3, fa0_3⟩ : (Sl S_impl_Vip))⟩ : S_laws_Config) a1_0 y hy
  · cases h

/-! laws.szWatch -/
def F_laws_szWatch (fu : Nat) (a_0 : S_laws_Watch) (left_1 : Int) : Option (Int) :=
  ((F_laws_szConfig fu a_0.Config left_1).bind fun y40 => (bif (decide (y40 < 0)) then (some (-1)) else (some y40)))
def pcf_laws_szWatch (fu : Nat) (f : Nat) (xs : List (D RT den)) : Option (Out RT den) := match f with | 37 => S_laws_szConfig fu xs | _ => none
def pcx_laws_szWatch (fu : Nat) (f : Nat) (xs : List (D RT den)) (ins : List (Ob RT den)) : Option (OutX RT den) := none
def pc_laws_szWatch (fu : Nat) : Pc RT den := ⟨pcf_laws_szWatch fu, fun _ => false, fun _ => false, pcx_laws_szWatch fu⟩
def msk_laws_szWatch (b : Nat) : List Nat := []
def lp_laws_szWatch (fu : Nat) : Lp RT den (Int) := fun b s k => none
theorem ev_laws_szWatch (fu : Nat) (a_0 : S_laws_Watch) (left_1 : Int) : evFun E (pc_laws_szWatch fu) msk_laws_szWatch (lp_laws_szWatch fu) out_i64 14 [(.agg [(.bool a_0.Ready), (.int .i64 a_0.Config.Version), (.rs a_0.Config.Backends.z .impl_Backend a_0.Config.Backends.n a_0.Config.Backends.f), (.rs a_0.Config.Vips.z .impl_Vip a_0.Config.Vips.n a_0.Config.Vips.f)]), (.int .i64 left_1)] = F_laws_szWatch fu a_0 left_1 := by kernel_rfl
noncomputable def body_laws_szWatch : Code := Tryz.f14.body.getD .skip
theorem lpok_laws_szWatch (fu : Nat) : LpOk E (pc_laws_szWatch fu) msk_laws_szWatch (lp_laws_szWatch fu) (loops 0 body_laws_szWatch) := by
  have h : loops 0 body_laws_szWatch = [] := by kernel_rfl
  rw [h]; intro p hp; cases hp
def S_laws_szWatch (fu : Nat) (xs : List (D RT den)) : Option (Out RT den) := match xs with | [.agg [.bool a0_1, .int .i64 a0_3, .rs za0_4 .impl_Backend na0_4 fa0_4, .rs za0_5 .impl_Vip na0_5 fa0_5], .int .i64 a1_0] => some ⟨Int, F_laws_szWatch fu (⟨a0_1, (⟨a0_3, (⟨za0_4, na0_4, fa0_4⟩ : (Sl S_impl_Backend)), (⟨za0_5, na0_5, fa0_5⟩ : (Sl S_impl_Vip))⟩ : S_laws_Config)⟩ : S_laws_Watch) a1_0, enc_i64, fun _ => true⟩ | _ => none
theorem hpc_laws_szWatch (fu : Nat) : ∀ f xs o, pcf_laws_szWatch fu f xs = some o → ∀ y, o.x = some y → Good E Tryz.prog f xs (o.g y) := by
  intro f xs o h
  unfold pcf_laws_szWatch at h
  split at h
  · exact good_laws_szConfig fu xs o h
  · cases h
theorem hpx_laws_szWatch (fu : Nat) : ∀ f xs ins o, pcx_laws_szWatch fu f xs ins = some o → ∀ y, o.x = some y → GoodX E Tryz.prog f xs ins (o.g y).1 (o.g y).2 := by
  intro f xs ins o h
  cases h
theorem goodv_laws_szWatch (fu : Nat) (a_0 : S_laws_Watch) (left_1 : Int) (y : Int) (hy : F_laws_szWatch fu a_0 left_1 = some y) : Good E Tryz.prog 14 [(.agg [(.bool a_0.Ready), (.int .i64 a_0.Config.Version), (.rs a_0.Config.Backends.z .impl_Backend a_0.Config.Backends.n a_0.Config.Backends.f), (.rs a_0.Config.Vips.z .impl_Vip a_0.Config.Vips.n a_0.Config.Vips.f)]), (.int .i64 left_1)] (enc_i64 y) :=
  fun_good E_ok (pc_good (pc := pc_laws_szWatch fu) (hpc_laws_szWatch fu) (hpx_laws_szWatch fu)) (fn := Tryz.f14) (c := body_laws_szWatch) (out := out_i64) (y := y) (by kernel_rfl) (by kernel_rfl) (by kernel_rfl) (lpok_laws_szWatch fu) (fun d hd => out_i64_enc d _ hd) ((ev_laws_szWatch fu a_0 left_1).trans hy)
theorem good_laws_szWatch (fu : Nat) : ∀ xs o, S_laws_szWatch fu xs = some o → ∀ y, o.x = some y → Good E Tryz.prog 14 xs (o.g y) := by
  intro xs o h y hy
  unfold S_laws_szWatch at h
  split at h
  · rename_i a0_1 a0_3 za0_4 na0_4 fa0_4 za0_5 na0_5 fa0_5 a1_0
    cases h
    exact goodv_laws_szWatch fu (⟨a0_1, (⟨a0_3, (⟨za0_4, na0_4, fa0_4⟩ : (Sl S_impl_Backend)), (⟨za0_5, na0_5, fa0_5⟩ : (Sl S_impl_Vip))⟩ : S_laws_Config)⟩ : S_laws_Watch) a1_0 y hy
  · cases h

/-! laws.szInt64SS -/
def F_laws_szInt64SS_B0 {ρ : Type} (fu : Nat) (a0_0 : (Sl (Sl Int))) (k0 : Int → Option ρ) (k1 : Int → Option ρ) (left1_1 : Int) (i5_2 : Int) (go : Int → Int → Option ρ) : Option ρ :=
  (bif (decide (i5_2 < ((a0_0.n : Nat) : Int))) then ((bif (decide (0 ≤ i5_2) && decide ((Int.toNat i5_2) < a0_0.n)) then some () else none : Option Unit).bind fun _ =>
    ((F_laws_szInt64S fu (a0_0.f (Int.toNat i5_2)) left1_1).bind fun y47 => (bif (decide (y47 < 0)) then (k0 y47) else (go y47 (IntKind.wrap .i64 (i5_2 + 1)))))) else (k1 left1_1))
def F_laws_szInt64SS (fu : Nat) (a_0 : (Sl (Sl Int))) (left_1 : Int) : Option (Int) :=
  (bif (decide ((IntKind.wrap .i64 (left_1 - ((a_0.n : Nat) : Int))) < 0)) then (some (-1)) else (L (fun w0 go0 => F_laws_szInt64SS_B0 fu a_0 (fun z48 => (some (-1))) (fun z49 =>
    (some z49)) w0.1 w0.2 (fun q0 q1 => go0 (q0, q1))) fu (((IntKind.wrap .i64 (left_1 - ((a_0.n : Nat) : Int))), 0) : Int × Int)))
def pcf_laws_szInt64SS (fu : Nat) (f : Nat) (xs : List (D RT den)) : Option (Out RT den) := match f with | 38 => S_laws_szInt64S fu xs | _ => none
def pcx_laws_szInt64SS (fu : Nat) (f : Nat) (xs : List (D RT den)) (ins : List (Ob RT den)) : Option (OutX RT den) := none
def pc_laws_szInt64SS (fu : Nat) : Pc RT den := ⟨pcf_laws_szInt64SS fu, fun _ => false, fun _ => false, pcx_laws_szInt64SS fu⟩
def msk_laws_szInt64SS (b : Nat) : List Nat := match b with | 0 => [2, 3, 4, 6, 7, 8, 9, 10, 11, 12, 13, 14, 15, 16, 17, 18, 19, 20, 21, 22, 23, 24, 25, 26] | 100000 => [0, 2, 3, 5, 6, 7, 8, 9, 10, 11, 12, 13, 14, 15, 16, 17, 18, 19, 20, 21, 22, 23, 24, 25, 26] | _ => []
def ps_laws_szInt64SS_0 : List (Pat RT) := [.flat (.rs .sl_i64), .flat (.int .i64), .flat .dead, .flat .dead, .flat .dead, .flat (.int .i64), .flat .dead, .flat .dead, .flat .dead, .flat .dead, .flat .dead, .flat .dead, .flat .dead, .flat .dead, .flat .dead, .flat .dead, .flat .dead, .flat .dead, .flat .dead, .flat .dead, .flat .dead, .flat .dead, .flat .dead, .flat .dead, .flat .dead, .flat .dead, .flat .dead]
def os_laws_szInt64SS_0 : List (OP RT) := []
def conv_laws_szInt64SS_0 (r : Raw den ps_laws_szInt64SS_0 os_laws_szInt64SS_0) : ((Sl (Sl Int))) × (Int × Int) := (r.1.1, (r.1.2.1, r.1.2.2.2.2.2.1))
def back_laws_szInt64SS_0 (c : (Sl (Sl Int))) (w : Int × Int) : St RT den := ⟨[(.rs c.z .sl_i64 c.n c.f), (.int .i64 w.1), .dead, .dead, .dead, (.int .i64 w.2), .dead, .dead, .dead, .dead, .dead, .dead, .dead, .dead, .dead, .dead, .dead, .dead, .dead, .dead, .dead, .dead, .dead, .dead, .dead, .dead, .dead], []⟩
def Bk_laws_szInt64SS_0 {ρ : Type} (fu : Nat) (c : (Sl (Sl Int))) (k : Ex → St RT den → Option ρ) (w : Int × Int) (go : (Int × Int) → Option ρ) : Option ρ := F_laws_szInt64SS_B0 fu c (fun a0 => k .ret ⟨[.dead, (.int .i64 a0), .dead, .dead, (.int .i64 (-1)), .dead, .dead, .dead, .dead, .dead, .dead, .dead, .dead, .dead, .dead, .dead, .dead, .dead, .dead, .dead, .dead, .dead, .dead, .dead, .dead, .dead, .dead], []⟩) (fun a0 => k (.exit 0) ⟨[.dead, (.int .i64 a0), .dead, .dead, .dead, .dead, .dead, .dead, .dead, .dead, .dead, .dead, .dead, .dead, .dead, .dead, .dead, .dead, .dead, .dead, .dead, .dead, .dead, .dead, .dead, .dead, .dead], []⟩) w.1 w.2 (fun q0 q1 => go (q0, q1))
def lp_laws_szInt64SS (fu : Nat) : Lp RT den (Int) := fun b s k => match b with | 0 => handle ps_laws_szInt64SS_0 os_laws_szInt64SS_0 conv_laws_szInt64SS_0 (Bk_laws_szInt64SS_0 fu) fu s k | _ => none
theorem ev_laws_szInt64SS (fu : Nat) (a_0 : (Sl (Sl Int))) (left_1 : Int) : evFun E (pc_laws_szInt64SS fu) msk_laws_szInt64SS (lp_laws_szInt64SS fu) out_i64 15 [(.rs a_0.z .sl_i64 a_0.n a_0.f), (.int .i64 left_1)] = F_laws_szInt64SS fu a_0 left_1 := by kernel_rfl
noncomputable def body_laws_szInt64SS : Code := Tryz.f15.body.getD .skip
noncomputable def lc_laws_szInt64SS_0 : Code := ((loops 0 body_laws_szInt64SS).getD 0 (0, .skip)).2
theorem round_laws_szInt64SS_0 (fu : Nat) (it : St RT den → Option (Int)) (k : Ex → St RT den → Option (Int)) c w : evCode E (pc_laws_szInt64SS fu) msk_laws_szInt64SS (lp_laws_szInt64SS fu) 0 lc_laws_szInt64SS_0 (back_laws_szInt64SS_0 c w) (after (msk_laws_szInt64SS 0) (msk_laws_szInt64SS 100000) 0 it k) = Bk_laws_szInt64SS_0 fu c k w (fun w => it (back_laws_szInt64SS_0 c w)) := by kernel_rfl
theorem lpok_laws_szInt64SS_0 (fu : Nat) : ∀ s k r, lp_laws_szInt64SS fu 0 s k = some r → ∃ fuel, iter (msk_laws_szInt64SS 0) (msk_laws_szInt64SS 100000) s.objs.length (evCode E (pc_laws_szInt64SS fu) msk_laws_szInt64SS (lp_laws_szInt64SS fu) 0 lc_laws_szInt64SS_0) fuel s k = some r :=
  handle_ok (ps := ps_laws_szInt64SS_0) (os := os_laws_szInt64SS_0) (conv := conv_laws_szInt64SS_0) (B := Bk_laws_szInt64SS_0 fu) (fu := fu) back_laws_szInt64SS_0 (fun raw => by kernel_rfl) 0 (fun c w => by kernel_rfl) (round_laws_szInt64SS_0 fu)
theorem lpok_laws_szInt64SS (fu : Nat) : LpOk E (pc_laws_szInt64SS fu) msk_laws_szInt64SS (lp_laws_szInt64SS fu) (loops 0 body_laws_szInt64SS) := loop_all 1 (by kernel_rfl) fun i hi => match i, hi with
  | 0, _ => by
    have h : (loops 0 body_laws_szInt64SS).getD 0 (0, .skip) = (0, lc_laws_szInt64SS_0) := by kernel_rfl
    rw [h]; exact lpok_laws_szInt64SS_0 fu
  | i + 1, hi => absurd hi (by omega)
def S_laws_szInt64SS (fu : Nat) (xs : List (D RT den)) : Option (Out RT den) := match xs with | [.rs za0_0 .sl_i64 na0_0 fa0_0, .int .i64 a1_0] => some ⟨Int, F_laws_szInt64SS fu (⟨za0_0, na0_0, fa0_0⟩ : (Sl (Sl Int))) a1_0, enc_i64, fun _ => true⟩ | _ => none
theorem hpc_laws_szInt64SS (fu : Nat) : ∀ f xs o, pcf_laws_szInt64SS fu f xs = some o → ∀ y, o.x = some y → Good E Tryz.prog f xs (o.g y) := by
  intro f xs o h
  unfold pcf_laws_szInt64SS at h
  split at h
  · exact good_laws_szInt64S fu xs o h
  · cases h
theorem hpx_laws_szInt64SS (fu : Nat) : ∀ f xs ins o, pcx_laws_szInt64SS fu f xs ins = some o → ∀ y, o.x = some y → GoodX E Tryz.prog f xs ins (o.g y).1 (o.g y).2 := by
  intro f xs ins o h
  cases h
theorem goodv_laws_szInt64SS (fu : Nat) (a_0 : (Sl (Sl Int))) (left_1 : Int) (y : Int) (hy : F_laws_szInt64SS fu a_0 left_1 = some y) : Good E Tryz.prog 15 [(.rs a_0.z .sl_i64 a_0.n a_0.f), (.int .i64 left_1)] (enc_i64 y) :=
  fun_good E_ok (pc_good (pc := pc_laws_szInt64SS fu) (hpc_laws_szInt64SS fu) (hpx_laws_szInt64SS fu)) (fn := Tryz.f15) (c := body_laws_szInt64SS) (out := out_i64) (y := y) (by kernel_rfl) (by kernel_rfl) (by kernel_rfl) (lpok_laws_szInt64SS fu) (fun d hd => out_i64_enc d _ hd) ((ev_laws_szInt64SS fu a_0 left_1).trans hy)
theorem good_laws_szInt64SS (fu : Nat) : ∀ xs o, S_laws_szInt64SS fu xs = some o → ∀ y, o.x = some y → Good E Tryz.prog 15 xs (o.g y) := by
  intro xs o h y hy
  unfold S_laws_szInt64SS at h
  split at h
  · rename_i za0_0 na0_0 fa0_0 a1_0
    cases h
    exact goodv_laws_szInt64SS fu (⟨za0_0, na0_0, fa0_0⟩ : (Sl (Sl Int))) a1_0 y hy
  · cases h

/-! laws.szHeldS -/
def F_laws_szHeldS (fu : Nat) (a_0 : (Sl S_laws_Held)) (left_1 : Int) : Option (Int) :=
  (bif (decide ((IntKind.wrap .i64 (left_1 - ((a_0.n : Nat) : Int))) < 0)) then (some (-1)) else (some (IntKind.wrap .i64 (left_1 - ((a_0.n : Nat) : Int)))))
def pcf_laws_szHeldS (fu : Nat) (f : Nat) (xs : List (D RT den)) : Option (Out RT den) := none
def pcx_laws_szHeldS (fu : Nat) (f : Nat) (xs : List (D RT den)) (ins : List (Ob RT den)) : Option (OutX RT den) := none
def pc_laws_szHeldS (fu : Nat) : Pc RT den := ⟨pcf_laws_szHeldS fu, fun _ => false, fun _ => false, pcx_laws_szHeldS fu⟩
def msk_laws_szHeldS (b : Nat) : List Nat := []
def lp_laws_szHeldS (fu : Nat) : Lp RT den (Int) := fun b s k => none
theorem ev_laws_szHeldS (fu : Nat) (a_0 : (Sl S_laws_Held)) (left_1 : Int) : evFun E (pc_laws_szHeldS fu) msk_laws_szHeldS (lp_laws_szHeldS fu) out_i64 16 [(.rs a_0.z .laws_Held a_0.n a_0.f), (.int .i64 left_1)] = F_laws_szHeldS fu a_0 left_1 := by kernel_rfl
noncomputable def body_laws_szHeldS : Code := Tryz.f16.body.getD .skip
theorem lpok_laws_szHeldS (fu : Nat) : LpOk E (pc_laws_szHeldS fu) msk_laws_szHeldS (lp_laws_szHeldS fu) (loops 0 body_laws_szHeldS) := by
  have h : loops 0 body_laws_szHeldS = [] := by kernel_rfl
  rw [h]; intro p hp; cases hp
def S_laws_szHeldS (fu : Nat) (xs : List (D RT den)) : Option (Out RT den) := match xs with | [.rs za0_0 .laws_Held na0_0 fa0_0, .int .i64 a1_0] => some ⟨Int, F_laws_szHeldS fu (⟨za0_0, na0_0, fa0_0⟩ : (Sl S_laws_Held)) a1_0, enc_i64, fun _ => true⟩ | _ => none
theorem hpc_laws_szHeldS (fu : Nat) : ∀ f xs o, pcf_laws_szHeldS fu f xs = some o → ∀ y, o.x = some y → Good E Tryz.prog f xs (o.g y) := by
  intro f xs o h
  cases h
theorem hpx_laws_szHeldS (fu : Nat) : ∀ f xs ins o, pcx_laws_szHeldS fu f xs ins = some o → ∀ y, o.x = some y → GoodX E Tryz.prog f xs ins (o.g y).1 (o.g y).2 := by
  intro f xs ins o h
  cases h
theorem goodv_laws_szHeldS (fu : Nat) (a_0 : (Sl S_laws_Held)) (left_1 : Int) (y : Int) (hy : F_laws_szHeldS fu a_0 left_1 = some y) : Good E Tryz.prog 16 [(.rs a_0.z .laws_Held a_0.n a_0.f), (.int .i64 left_1)] (enc_i64 y) :=
  fun_good E_ok (pc_good (pc := pc_laws_szHeldS fu) (hpc_laws_szHeldS fu) (hpx_laws_szHeldS fu)) (fn := Tryz.f16) (c := body_laws_szHeldS) (out := out_i64) (y := y) (by kernel_rfl) (by kernel_rfl) (by kernel_rfl) (lpok_laws_szHeldS fu) (fun d hd => out_i64_enc d _ hd) ((ev_laws_szHeldS fu a_0 left_1).trans hy)
theorem good_laws_szHeldS (fu : Nat) : ∀ xs o, S_laws_szHeldS fu xs = some o → ∀ y, o.x = some y → Good E Tryz.prog 16 xs (o.g y) := by
  intro xs o h y hy
  unfold S_laws_szHeldS at h
  split at h
  · rename_i za0_0 na0_0 fa0_0 a1_0
    cases h
    exact goodv_laws_szHeldS fu (⟨za0_0, na0_0, fa0_0⟩ : (Sl S_laws_Held)) a1_0 y hy
  · cases h

/-! laws.szMux -/
def F_laws_szMux (fu : Nat) (a_0 : S_laws_Mux) (left_1 : Int) : Option (Int) :=
  ((F_laws_szWatch fu a_0.Watch left_1).bind fun y37 => (bif (decide (y37 < 0)) then (some (-1)) else ((F_laws_szInt64SS fu a_0.Tables y37).bind fun y38 => (bif (decide (y38 < 0)) then
    (some (-1)) else ((F_laws_szHeldS fu a_0.Cache y38).bind fun y39 => (bif (decide (y39 < 0)) then (some (-1)) else (some y39)))))))
def pcf_laws_szMux (fu : Nat) (f : Nat) (xs : List (D RT den)) : Option (Out RT den) := match f with | 14 => S_laws_szWatch fu xs | 15 => S_laws_szInt64SS fu xs | 16 => S_laws_szHeldS fu xs | _ => none
def pcx_laws_szMux (fu : Nat) (f : Nat) (xs : List (D RT den)) (ins : List (Ob RT den)) : Option (OutX RT den) := none
def pc_laws_szMux (fu : Nat) : Pc RT den := ⟨pcf_laws_szMux fu, fun _ => false, fun _ => false, pcx_laws_szMux fu⟩
def msk_laws_szMux (b : Nat) : List Nat := []
def lp_laws_szMux (fu : Nat) : Lp RT den (Int) := fun b s k => none
theorem ev_laws_szMux (fu : Nat) (a_0 : S_laws_Mux) (left_1 : Int) : evFun E (pc_laws_szMux fu) msk_laws_szMux (lp_laws_szMux fu) out_i64 5 [(.agg [(.int .i64 a_0.Address), (.int .i64 a_0.Now), (.bool a_0.Watch.Ready), (.int .i64 a_0.Watch.Config.Version), (.rs a_0.Watch.Config.Backends.z .impl_Backend a_0.Watch.Config.Backends.n a_0.Watch.Config.Backends.f), (.rs a_0.Watch.Config.Vips.z .impl_Vip a_0.Watch.Config.Vips.n a_0.Watch.Config.Vips.f), (.rs a_0.Tables.z .sl_i64 a_0.Tables.n a_0.Tables.f), (.rs a_0.Cache.z .laws_Held a_0.Cache.n a_0.Cache.f)]), (.int .i64 left_1)] = F_laws_szMux fu a_0 left_1 := by kernel_rfl
noncomputable def body_laws_szMux : Code := Tryz.f5.body.getD .skip
theorem lpok_laws_szMux (fu : Nat) : LpOk E (pc_laws_szMux fu) msk_laws_szMux (lp_laws_szMux fu) (loops 0 body_laws_szMux) := by
  have h : loops 0 body_laws_szMux = [] := by kernel_rfl
  rw [h]; intro p hp; cases hp
def S_laws_szMux (fu : Nat) (xs : List (D RT den)) : Option (Out RT den) := match xs with | [.agg [.int .i64 a0_1, .int .i64 a0_2, .bool a0_4, .int .i64 a0_6, .rs za0_7 .impl_Backend na0_7 fa0_7, .rs za0_8 .impl_Vip na0_8 fa0_8, .rs za0_9 .sl_i64 na0_9 fa0_9, .rs za0_10 .laws_Held na0_10 fa0_10], .int .i64 a1_0] => some ⟨Int, F_laws_szMux fu (⟨a0_1, a0_2, (⟨a0_4, (⟨a0_6, (⟨za0_7, na0_7, fa0_7⟩ : (Sl S_impl_Backend)), (⟨za0_8, na0_8, fa0_8⟩ : (Sl S_impl_Vip))⟩ : S_laws_Config)⟩ : S_laws_Watch), (⟨za0_9, na0_9, fa0_9⟩ : (Sl (Sl Int))), (⟨za0_10, na0_10, fa0_10⟩ : (Sl S_laws_Held))⟩ : S_laws_Mux) a1_0, enc_i64, fun _ => true⟩ | _ => none
theorem hpc_laws_szMux (fu : Nat) : ∀ f xs o, pcf_laws_szMux fu f xs = some o → ∀ y, o.x = some y → Good E Tryz.prog f xs (o.g y) := by
  intro f xs o h
  unfold pcf_laws_szMux at h
  split at h
  · exact good_laws_szWatch fu xs o h
  · exact good_laws_szInt64SS fu xs o h
  · exact good_laws_szHeldS fu xs o h
  · cases h
theorem hpx_laws_szMux (fu : Nat) : ∀ f xs ins o, pcx_laws_szMux fu f xs ins = some o → ∀ y, o.x = some y → GoodX E Tryz.prog f xs ins (o.g y).1 (o.g y).2 := by
  intro f xs ins o h
  cases h
theorem goodv_laws_szMux (fu : Nat) (a_0 : S_laws_Mux) (left_1 : Int) (y : Int) (hy : F_laws_szMux fu a_0 left_1 = some y) : Good E Tryz.prog 5 [(.agg [(.int .i64 a_0.Address), (.int .i64 a_0.Now), (.bool a_0.Watch.Ready), (.int .i64 a_0.Watch.Config.Version), (.rs a_0.Watch.Config.Backends.z .impl_Backend a_0.Watch.Config.Backends.n a_0.Watch.Config.Backends.f), (.rs a_0.Watch.Config.Vips.z .impl_Vip a_0.Watch.Config.Vips.n a_0.Watch.Config.Vips.f), (.rs a_0.Tables.z .sl_i64 a_0.Tables.n a_0.Tables.f), (.rs a_0.Cache.z .laws_Held a_0.Cache.n a_0.Cache.f)]), (.int .i64 left_1)] (enc_i64 y) :=
  fun_good E_ok (pc_good (pc := pc_laws_szMux fu) (hpc_laws_szMux fu) (hpx_laws_szMux fu)) (fn := Tryz.f5) (c := body_laws_szMux) (out := out_i64) (y := y) (by kernel_rfl) (by kernel_rfl) (by kernel_rfl) (lpok_laws_szMux fu) (fun d hd => out_i64_enc d _ hd) ((ev_laws_szMux fu a_0 left_1).trans hy)
theorem good_laws_szMux (fu : Nat) : ∀ xs o, S_laws_szMux fu xs = some o → ∀ y, o.x = some y → Good E Tryz.prog 5 xs (o.g y) := by
  intro xs o h y hy
  unfold S_laws_szMux at h
  split at h
  · rename_i a0_1 a0_2 a0_4 a0_6 za0_7 na0_7 fa0_7 za0_8 na0_8 fa0_8 za0_9 na0_9 fa0_9 za0_10 na0_10 fa0_10 a1_0
    cases h
    exact goodv_laws_szMux fu (⟨a0_1, a0_2, (⟨a0_4, (⟨a0_6, (⟨za0_7, na0_7, fa0_7⟩ : (Sl S_impl_Backend)), (⟨za0_8, na0_8, fa0_8⟩ : (Sl S_impl_Vip))⟩ : S_laws_Config)⟩ : S_laws_Watch), (⟨za0_9, na0_9, fa0_9⟩ : (Sl (Sl Int))), (⟨za0_10, na0_10, fa0_10⟩ : (Sl S_laws_Held))⟩ : S_laws_Mux) a1_0 y hy
  · cases h

/-! laws.toBackendS -/
def F_laws_toBackendS_B0 {ρ : Type} (fu : Nat) (a0_0 : (Sl S_impl_Backend)) (out3_1 : Nat) (on0_3 : Nat) (k0 : (Nat → S_impl_Backend) → Option ρ) (i4_2 : Int) (of0_4 : (Nat → S_impl_Backend)) (go : Int → (Nat → S_impl_Backend) → Option ρ) : Option ρ :=
  (bif (decide (i4_2 < ((a0_0.n : Nat) : Int))) then ((bif (decide (0 ≤ i4_2) && decide ((Int.toNat i4_2) < a0_0.n)) then some () else none : Option Unit).bind fun _ =>
    ((F_laws_toBackend fu (a0_0.f (Int.toNat i4_2))).bind fun y56 => ((bif (decide (0 ≤ i4_2) && decide ((Int.toNat i4_2) < out3_1)) then some () else none : Option Unit).bind fun _ =>
    (go (IntKind.wrap .i64 (i4_2 + 1)) (fun j => if j = (Int.toNat i4_2) then y56 else of0_4 j))))) else (k0 of0_4))
def F_laws_toBackendS (fu : Nat) (a_0 : (Sl S_impl_Backend)) : Option ((Sl S_impl_Backend)) :=
  (bif (decide (0 ≤ ((a_0.n : Nat) : Int)) && (decide (((a_0.n : Nat) : Int) = ((a_0.n : Nat) : Int)) && (decide ((40 : Int) * ((a_0.n : Nat) : Int) ≤ 281474976710656) && decide (((a_0.n : Nat) : Int) ≤ 9223372036854775807)))) then
    (L (fun w0 go0 => F_laws_toBackendS_B0 fu a_0 (Int.toNat ((a_0.n : Nat) : Int)) (Int.toNat ((a_0.n : Nat) : Int)) (fun z57 => (some (⟨none, (Int.toNat ((a_0.n : Nat) : Int)),
    z57⟩ : (Sl S_impl_Backend)))) w0.1 w0.2 (fun q0 q1 => go0 (q0, q1))) fu ((0, (fun _ => (⟨0, 0, 0, 0, false⟩ : S_impl_Backend))) : Int × (Nat → S_impl_Backend))) else none)
def pcf_laws_toBackendS (fu : Nat) (f : Nat) (xs : List (D RT den)) : Option (Out RT den) := match f with | 97 => S_laws_toBackend fu xs | _ => none
def pcx_laws_toBackendS (fu : Nat) (f : Nat) (xs : List (D RT den)) (ins : List (Ob RT den)) : Option (OutX RT den) := none
def pc_laws_toBackendS (fu : Nat) : Pc RT den := ⟨pcf_laws_toBackendS fu, fun _ => false, fun _ => false, pcx_laws_toBackendS fu⟩
def msk_laws_toBackendS (b : Nat) : List Nat := match b with | 0 => [1, 2, 5, 6, 7, 8, 9, 10, 11, 12, 13, 14, 15, 16, 17, 18, 19, 20, 21, 22] | 100000 => [0, 1, 4, 5, 6, 7, 8, 9, 10, 11, 12, 13, 14, 15, 16, 17, 18, 19, 20, 21, 22] | _ => []
def ps_laws_toBackendS_0 : List (Pat RT) := [.flat (.rs .impl_Backend), .flat .dead, .flat .dead, .flat (.os 0), .flat (.int .i64), .flat .dead, .flat .dead, .flat .dead, .flat .dead, .flat .dead, .flat .dead, .flat .dead, .flat .dead, .flat .dead, .flat .dead, .flat .dead, .flat .dead, .flat .dead, .flat .dead, .flat .dead, .flat .dead, .flat .dead, .flat .dead]
def os_laws_toBackendS_0 : List (OP RT) := [.row false .impl_Backend]
def conv_laws_toBackendS_0 (r : Raw den ps_laws_toBackendS_0 os_laws_toBackendS_0) : ((Sl S_impl_Backend) × Nat × Nat) × (Int × (Nat → S_impl_Backend)) := ((r.1.1, r.1.2.2.2.1, r.2.1.1), (r.1.2.2.2.2.1, r.2.1.2))
def back_laws_toBackendS_0 (c : (Sl S_impl_Backend) × Nat × Nat) (w : Int × (Nat → S_impl_Backend)) : St RT den := ⟨[(.rs c.1.z .impl_Backend c.1.n c.1.f), .dead, .dead, (.os 0 c.2.1), (.int .i64 w.1), .dead, .dead, .dead, .dead, .dead, .dead, .dead, .dead, .dead, .dead, .dead, .dead, .dead, .dead, .dead, .dead, .dead, .dead], [(.row false .impl_Backend c.2.2 w.2)]⟩
def Bk_laws_toBackendS_0 {ρ : Type} (fu : Nat) (c : (Sl S_impl_Backend) × Nat × Nat) (k : Ex → St RT den → Option ρ) (w : Int × (Nat → S_impl_Backend)) (go : (Int × (Nat → S_impl_Backend)) → Option ρ) : Option ρ := F_laws_toBackendS_B0 fu c.1 c.2.1 c.2.2 (fun a0 => k (.exit 0) ⟨[.dead, .dead, .dead, (.os 0 c.2.1), .dead, .dead, .dead, .dead, .dead, .dead, .dead, .dead, .dead, .dead, .dead, .dead, .dead, .dead, .dead, .dead, .dead, .dead, .dead], [(.row false .impl_Backend c.2.2 a0)]⟩) w.1 w.2 (fun q0 q1 => go (q0, q1))
def lp_laws_toBackendS (fu : Nat) : Lp RT den ((Sl S_impl_Backend)) := fun b s k => match b with | 0 => handle ps_laws_toBackendS_0 os_laws_toBackendS_0 conv_laws_toBackendS_0 (Bk_laws_toBackendS_0 fu) fu s k | _ => none
theorem ev_laws_toBackendS (fu : Nat) (a_0 : (Sl S_impl_Backend)) : evFun E (pc_laws_toBackendS fu) msk_laws_toBackendS (lp_laws_toBackendS fu) out_sl_impl_Backend 70 [(.rs a_0.z .impl_Backend a_0.n a_0.f)] = F_laws_toBackendS fu a_0 := by kernel_rfl
noncomputable def body_laws_toBackendS : Code := Tryz.f70.body.getD .skip
noncomputable def lc_laws_toBackendS_0 : Code := ((loops 0 body_laws_toBackendS).getD 0 (0, .skip)).2
theorem round_laws_toBackendS_0 (fu : Nat) (it : St RT den → Option ((Sl S_impl_Backend))) (k : Ex → St RT den → Option ((Sl S_impl_Backend))) c w : evCode E (pc_laws_toBackendS fu) msk_laws_toBackendS (lp_laws_toBackendS fu) 0 lc_laws_toBackendS_0 (back_laws_toBackendS_0 c w) (after (msk_laws_toBackendS 0) (msk_laws_toBackendS 100000) 1 it k) = Bk_laws_toBackendS_0 fu c k w (fun w => it (back_laws_toBackendS_0 c w)) := by kernel_rfl
theorem lpok_laws_toBackendS_0 (fu : Nat) : ∀ s k r, lp_laws_toBackendS fu 0 s k = some r → ∃ fuel, iter (msk_laws_toBackendS 0) (msk_laws_toBackendS 100000) s.objs.length (evCode E (pc_laws_toBackendS fu) msk_laws_toBackendS (lp_laws_toBackendS fu) 0 lc_laws_toBackendS_0) fuel s k = some r :=
  handle_ok (ps := ps_laws_toBackendS_0) (os := os_laws_toBackendS_0) (conv := conv_laws_toBackendS_0) (B := Bk_laws_toBackendS_0 fu) (fu := fu) back_laws_toBackendS_0 (fun raw => by kernel_rfl) 1 (fun c w => by kernel_rfl) (round_laws_toBackendS_0 fu)
theorem lpok_laws_toBackendS (fu : Nat) : LpOk E (pc_laws_toBackendS fu) msk_laws_toBackendS (lp_laws_toBackendS fu) (loops 0 body_laws_toBackendS) := loop_all 1 (by kernel_rfl) fun i hi => match i, hi with
  | 0, _ => by
    have h : (loops 0 body_laws_toBackendS).getD 0 (0, .skip) = (0, lc_laws_toBackendS_0) := by kernel_rfl
    rw [h]; exact lpok_laws_toBackendS_0 fu
  | i + 1, hi => absurd hi (by omega)
def S_laws_toBackendS (fu : Nat) (xs : List (D RT den)) : Option (Out RT den) := match xs with | [.rs za0_0 .impl_Backend na0_0 fa0_0] => some ⟨(Sl S_impl_Backend), F_laws_toBackendS fu (⟨za0_0, na0_0, fa0_0⟩ : (Sl S_impl_Backend)), enc_sl_impl_Backend, fun _ => true⟩ | _ => none
theorem hpc_laws_toBackendS (fu : Nat) : ∀ f xs o, pcf_laws_toBackendS fu f xs = some o → ∀ y, o.x = some y → Good E Tryz.prog f xs (o.g y) := by
  intro f xs o h
  unfold pcf_laws_toBackendS at h
  split at h
  · exact good_laws_toBackend fu xs o h
  · cases h
theorem hpx_laws_toBackendS (fu : Nat) : ∀ f xs ins o, pcx_laws_toBackendS fu f xs ins = some o → ∀ y, o.x = some y → GoodX E Tryz.prog f xs ins (o.g y).1 (o.g y).2 := by
  intro f xs ins o h
  cases h
theorem goodv_laws_toBackendS (fu : Nat) (a_0 : (Sl S_impl_Backend)) (y : (Sl S_impl_Backend)) (hy : F_laws_toBackendS fu a_0 = some y) : Good E Tryz.prog 70 [(.rs a_0.z .impl_Backend a_0.n a_0.f)] (enc_sl_impl_Backend y) :=
  fun_good E_ok (pc_good (pc := pc_laws_toBackendS fu) (hpc_laws_toBackendS fu) (hpx_laws_toBackendS fu)) (fn := Tryz.f70) (c := body_laws_toBackendS) (out := out_sl_impl_Backend) (y := y) (by kernel_rfl) (by kernel_rfl) (by kernel_rfl) (lpok_laws_toBackendS fu) (fun d hd => out_sl_impl_Backend_enc d _ hd) ((ev_laws_toBackendS fu a_0).trans hy)
theorem good_laws_toBackendS (fu : Nat) : ∀ xs o, S_laws_toBackendS fu xs = some o → ∀ y, o.x = some y → Good E Tryz.prog 70 xs (o.g y) := by
  intro xs o h y hy
  unfold S_laws_toBackendS at h
  split at h
  · rename_i za0_0 na0_0 fa0_0
    cases h
    exact goodv_laws_toBackendS fu (⟨za0_0, na0_0, fa0_0⟩ : (Sl S_impl_Backend)) y hy
  · cases h

/-! laws.toInt64S -/
def F_laws_toInt64S_B0 {ρ : Type} (fu : Nat) (a0_0 : (Sl Int)) (out3_1 : Nat) (on0_3 : Nat) (k0 : (Nat → Int) → Option ρ) (i4_2 : Int) (of0_4 : (Nat → Int)) (go : Int → (Nat → Int) → Option ρ) : Option ρ :=
  (bif (decide (i4_2 < ((a0_0.n : Nat) : Int))) then ((bif (decide (0 ≤ i4_2) && decide ((Int.toNat i4_2) < a0_0.n)) then some () else none : Option Unit).bind fun _ => ((bif (decide (0 ≤ i4_2) &&
    decide ((Int.toNat i4_2) < out3_1)) then some () else none : Option Unit).bind fun _ => (go (IntKind.wrap .i64 (i4_2 + 1)) (fun j => if j = (Int.toNat i4_2) then (a0_0.f (Int.toNat i4_2)) else
    of0_4 j)))) else (k0 of0_4))
def F_laws_toInt64S (fu : Nat) (a_0 : (Sl Int)) : Option ((Sl Int)) :=
  (bif (decide (0 ≤ ((a_0.n : Nat) : Int)) && (decide (((a_0.n : Nat) : Int) = ((a_0.n : Nat) : Int)) && (decide ((8 : Int) * ((a_0.n : Nat) : Int) ≤ 281474976710656) && decide (((a_0.n : Nat) : Int) ≤ 9223372036854775807)))) then
    (L (fun w0 go0 => F_laws_toInt64S_B0 fu a_0 (Int.toNat ((a_0.n : Nat) : Int)) (Int.toNat ((a_0.n : Nat) : Int)) (fun z61 => (some (⟨none, (Int.toNat ((a_0.n : Nat) : Int)), z61⟩ : (Sl Int)))) w0.1 w0.2 (fun q0 q1 =>
    go0 (q0, q1))) fu ((0, (fun _ => 0)) : Int × (Nat → Int))) else none)
def pcf_laws_toInt64S (fu : Nat) (f : Nat) (xs : List (D RT den)) : Option (Out RT den) := none
def pcx_laws_toInt64S (fu : Nat) (f : Nat) (xs : List (D RT den)) (ins : List (Ob RT den)) : Option (OutX RT den) := none
def pc_laws_toInt64S (fu : Nat) : Pc RT den := ⟨pcf_laws_toInt64S fu, fun _ => false, fun _ => false, pcx_laws_toInt64S fu⟩
def msk_laws_toInt64S (b : Nat) : List Nat := match b with | 0 => [1, 2, 5, 6, 7, 8, 9, 10, 11, 12, 13, 14, 15, 16, 17, 18, 19, 20, 21] | 100000 => [0, 1, 4, 5, 6, 7, 8, 9, 10, 11, 12, 13, 14, 15, 16, 17, 18, 19, 20, 21] | _ => []
def ps_laws_toInt64S_0 : List (Pat RT) := [.flat (.rs .i64), .flat .dead, .flat .dead, .flat (.os 0), .flat (.int .i64), .flat .dead, .flat .dead, .flat .dead, .flat .dead, .flat .dead, .flat .dead, .flat .dead, .flat .dead, .flat .dead, .flat .dead, .flat .dead, .flat .dead, .flat .dead, .flat .dead, .flat .dead, .flat .dead, .flat .dead]
def os_laws_toInt64S_0 : List (OP RT) := [.row false .i64]
def conv_laws_toInt64S_0 (r : Raw den ps_laws_toInt64S_0 os_laws_toInt64S_0) : ((Sl Int) × Nat × Nat) × (Int × (Nat → Int)) := ((r.1.1, r.1.2.2.2.1, r.2.1.1), (r.1.2.2.2.2.1, r.2.1.2))
def back_laws_toInt64S_0 (c : (Sl Int) × Nat × Nat) (w : Int × (Nat → Int)) : St RT den := ⟨[(.rs c.1.z .i64 c.1.n c.1.f), .dead, .dead, (.os 0 c.2.1), (.int .i64 w.1), .dead, .dead, .dead, .dead, .dead, .dead, .dead, .dead, .dead, .dead, .dead, .dead, .dead, .dead, .dead, .dead, .dead], [(.row false .i64 c.2.2 w.2)]⟩
def Bk_laws_toInt64S_0 {ρ : Type} (fu : Nat) (c : (Sl Int) × Nat × Nat) (k : Ex → St RT den → Option ρ) (w : Int × (Nat → Int)) (go : (Int × (Nat → Int)) → Option ρ) : Option ρ := F_laws_toInt64S_B0 fu c.1 c.2.1 c.2.2 (fun a0 => k (.exit 0) ⟨[.dead, .dead, .dead, (.os 0 c.2.1), .dead, .dead, .dead, .dead, .dead, .dead, .dead, .dead, .dead, .dead, .dead, .dead, .dead, .dead, .dead, .dead, .dead, .dead], [(.row false .i64 c.2.2 a0)]⟩) w.1 w.2 (fun q0 q1 => go (q0, q1))
def lp_laws_toInt64S (fu : Nat) : Lp RT den ((Sl Int)) := fun b s k => match b with | 0 => handle ps_laws_toInt64S_0 os_laws_toInt64S_0 conv_laws_toInt64S_0 (Bk_laws_toInt64S_0 fu) fu s k | _ => none
theorem ev_laws_toInt64S (fu : Nat) (a_0 : (Sl Int)) : evFun E (pc_laws_toInt64S fu) msk_laws_toInt64S (lp_laws_toInt64S fu) out_sl_i64 46 [(.rs a_0.z .i64 a_0.n a_0.f)] = F_laws_toInt64S fu a_0 := by kernel_rfl
noncomputable def body_laws_toInt64S : Code := Tryz.f46.body.getD .skip
noncomputable def lc_laws_toInt64S_0 : Code := ((loops 0 body_laws_toInt64S).getD 0 (0, .skip)).2
theorem round_laws_toInt64S_0 (fu : Nat) (it : St RT den → Option ((Sl Int))) (k : Ex → St RT den → Option ((Sl Int))) c w : evCode E (pc_laws_toInt64S fu) msk_laws_toInt64S (lp_laws_toInt64S fu) 0 lc_laws_toInt64S_0 (back_laws_toInt64S_0 c w) (after (msk_laws_toInt64S 0) (msk_laws_toInt64S 100000) 1 it k) = Bk_laws_toInt64S_0 fu c k w (fun w => it (back_laws_toInt64S_0 c w)) := by kernel_rfl
theorem lpok_laws_toInt64S_0 (fu : Nat) : ∀ s k r, lp_laws_toInt64S fu 0 s k = some r → ∃ fuel, iter (msk_laws_toInt64S 0) (msk_laws_toInt64S 100000) s.objs.length (evCode E (pc_laws_toInt64S fu) msk_laws_toInt64S (lp_laws_toInt64S fu) 0 lc_laws_toInt64S_0) fuel s k = some r :=
  handle_ok (ps := ps_laws_toInt64S_0) (os := os_laws_toInt64S_0) (conv := conv_laws_toInt64S_0) (B := Bk_laws_toInt64S_0 fu) (fu := fu) back_laws_toInt64S_0 (fun raw => by kernel_rfl) 1 (fun c w => by kernel_rfl) (round_laws_toInt64S_0 fu)
theorem lpok_laws_toInt64S (fu : Nat) : LpOk E (pc_laws_toInt64S fu) msk_laws_toInt64S (lp_laws_toInt64S fu) (loops 0 body_laws_toInt64S) := loop_all 1 (by kernel_rfl) fun i hi => match i, hi with
  | 0, _ => by
    have h : (loops 0 body_laws_toInt64S).getD 0 (0, .skip) = (0, lc_laws_toInt64S_0) := by kernel_rfl
    rw [h]; exact lpok_laws_toInt64S_0 fu
  | i + 1, hi => absurd hi (by omega)
def S_laws_toInt64S (fu : Nat) (xs : List (D RT den)) : Option (Out RT den) := match xs with | [.rs za0_0 .i64 na0_0 fa0_0] => some ⟨(Sl Int), F_laws_toInt64S fu (⟨za0_0, na0_0, fa0_0⟩ : (Sl Int)), enc_sl_i64, fun _ => true⟩ | _ => none
theorem hpc_laws_toInt64S (fu : Nat) : ∀ f xs o, pcf_laws_toInt64S fu f xs = some o → ∀ y, o.x = some y → Good E Tryz.prog f xs (o.g y) := by
  intro f xs o h
  cases h
theorem hpx_laws_toInt64S (fu : Nat) : ∀ f xs ins o, pcx_laws_toInt64S fu f xs ins = some o → ∀ y, o.x = some y → GoodX E Tryz.prog f xs ins (o.g y).1 (o.g y).2 := by
  intro f xs ins o h
  cases h
theorem goodv_laws_toInt64S (fu : Nat) (a_0 : (Sl Int)) (y : (Sl Int)) (hy : F_laws_toInt64S fu a_0 = some y) : Good E Tryz.prog 46 [(.rs a_0.z .i64 a_0.n a_0.f)] (enc_sl_i64 y) :=
  fun_good E_ok (pc_good (pc := pc_laws_toInt64S fu) (hpc_laws_toInt64S fu) (hpx_laws_toInt64S fu)) (fn := Tryz.f46) (c := body_laws_toInt64S) (out := out_sl_i64) (y := y) (by kernel_rfl) (by kernel_rfl) (by kernel_rfl) (lpok_laws_toInt64S fu) (fun d hd => out_sl_i64_enc d _ hd) ((ev_laws_toInt64S fu a_0).trans hy)
theorem good_laws_toInt64S (fu : Nat) : ∀ xs o, S_laws_toInt64S fu xs = some o → ∀ y, o.x = some y → Good E Tryz.prog 46 xs (o.g y) := by
  intro xs o h y hy
  unfold S_laws_toInt64S at h
  split at h
  · rename_i za0_0 na0_0 fa0_0
    cases h
    exact goodv_laws_toInt64S fu (⟨za0_0, na0_0, fa0_0⟩ : (Sl Int)) y hy
  · cases h

/-! laws.toVip -/
def F_laws_toVip (fu : Nat) (a_0 : S_impl_Vip) : Option (S_impl_Vip) :=
  ((F_laws_toInt64S fu a_0.Names).bind fun y60 => (some (⟨a_0.Address, a_0.Port, a_0.Proto, y60⟩ : S_impl_Vip)))
def pcf_laws_toVip (fu : Nat) (f : Nat) (xs : List (D RT den)) : Option (Out RT den) := match f with | 46 => S_laws_toInt64S fu xs | _ => none
def pcx_laws_toVip (fu : Nat) (f : Nat) (xs : List (D RT den)) (ins : List (Ob RT den)) : Option (OutX RT den) := none
def pc_laws_toVip (fu : Nat) : Pc RT den := ⟨pcf_laws_toVip fu, fun _ => false, fun _ => false, pcx_laws_toVip fu⟩
def msk_laws_toVip (b : Nat) : List Nat := []
def lp_laws_toVip (fu : Nat) : Lp RT den (S_impl_Vip) := fun b s k => none
theorem ev_laws_toVip (fu : Nat) (a_0 : S_impl_Vip) : evFun E (pc_laws_toVip fu) msk_laws_toVip (lp_laws_toVip fu) out_impl_Vip 98 [(.agg [(.int .i64 a_0.Address), (.int .i64 a_0.Port), (.int .i64 a_0.Proto), (.rs a_0.Names.z .i64 a_0.Names.n a_0.Names.f)])] = F_laws_toVip fu a_0 := by kernel_rfl
noncomputable def body_laws_toVip : Code := Tryz.f98.body.getD .skip
theorem lpok_laws_toVip (fu : Nat) : LpOk E (pc_laws_toVip fu) msk_laws_toVip (lp_laws_toVip fu) (loops 0 body_laws_toVip) := by
  have h : loops 0 body_laws_toVip = [] := by kernel_rfl
  rw [h]; intro p hp; cases hp
def S_laws_toVip (fu : Nat) (xs : List (D RT den)) : Option (Out RT den) := match xs with | [.agg [.int .i64 a0_1, .int .i64 a0_2, .int .i64 a0_3, .rs za0_4 .i64 na0_4 fa0_4]] => some ⟨S_impl_Vip, F_laws_toVip fu (⟨a0_1, a0_2, a0_3, (⟨za0_4, na0_4, fa0_4⟩ : (Sl Int))⟩ : S_impl_Vip), enc_impl_Vip, fun _ => true⟩ | _ => none
theorem hpc_laws_toVip (fu : Nat) : ∀ f xs o, pcf_laws_toVip fu f xs = some o → ∀ y, o.x = some y → Good E Tryz.prog f xs (o.g y) := by
  intro f xs o h
  unfold pcf_laws_toVip at h
  split at h
  · exact good_laws_toInt64S fu xs o h
  · cases h
theorem hpx_laws_toVip (fu : Nat) : ∀ f xs ins o, pcx_laws_toVip fu f xs ins = some o → ∀ y, o.x = some y → GoodX E Tryz.prog f xs ins (o.g y).1 (o.g y).2 := by
  intro f xs ins o h
  cases h
theorem goodv_laws_toVip (fu : Nat) (a_0 : S_impl_Vip) (y : S_impl_Vip) (hy : F_laws_toVip fu a_0 = some y) : Good E Tryz.prog 98 [(.agg [(.int .i64 a_0.Address), (.int .i64 a_0.Port), (.int .i64 a_0.Proto), (.rs a_0.Names.z .i64 a_0.Names.n a_0.Names.f)])] (enc_impl_Vip y) :=
  fun_good E_ok (pc_good (pc := pc_laws_toVip fu) (hpc_laws_toVip fu) (hpx_laws_toVip fu)) (fn := Tryz.f98) (c := body_laws_toVip) (out := out_impl_Vip) (y := y) (by kernel_rfl) (by kernel_rfl) (by kernel_rfl) (lpok_laws_toVip fu) (fun d hd => out_impl_Vip_enc d _ hd) ((ev_laws_toVip fu a_0).trans hy)
theorem good_laws_toVip (fu : Nat) : ∀ xs o, S_laws_toVip fu xs = some o → ∀ y, o.x = some y → Good E Tryz.prog 98 xs (o.g y) := by
  intro xs o h y hy
  unfold S_laws_toVip at h
  split at h
  · rename_i a0_1 a0_2 a0_3 za0_4 na0_4 fa0_4
    cases h
    exact goodv_laws_toVip fu (⟨a0_1, a0_2, a0_3, (⟨za0_4, na0_4, fa0_4⟩ : (Sl Int))⟩ : S_impl_Vip) y hy
  · cases h

/-! laws.toVipS -/
def F_laws_toVipS_B0 {ρ : Type} (fu : Nat) (a0_0 : (Sl S_impl_Vip)) (out3_1 : Nat) (on0_3 : Nat) (k0 : (Nat → S_impl_Vip) → Option ρ) (i4_2 : Int) (of0_4 : (Nat → S_impl_Vip)) (go : Int → (Nat → S_impl_Vip) → Option ρ) : Option ρ :=
  (bif (decide (i4_2 < ((a0_0.n : Nat) : Int))) then ((bif (decide (0 ≤ i4_2) && decide ((Int.toNat i4_2) < a0_0.n)) then some () else none : Option Unit).bind fun _ =>
    ((F_laws_toVip fu (a0_0.f (Int.toNat i4_2))).bind fun y58 => ((bif (decide (0 ≤ i4_2) && decide ((Int.toNat i4_2) < out3_1)) then some () else none : Option Unit).bind fun _ =>
    (go (IntKind.wrap .i64 (i4_2 + 1)) (fun j => if j = (Int.toNat i4_2) then y58 else of0_4 j))))) else (k0 of0_4))
def F_laws_toVipS (fu : Nat) (a_0 : (Sl S_impl_Vip)) : Option ((Sl S_impl_Vip)) :=
  (bif (decide (0 ≤ ((a_0.n : Nat) : Int)) && (decide (((a_0.n : Nat) : Int) = ((a_0.n : Nat) : Int)) && (decide ((48 : Int) * ((a_0.n : Nat) : Int) ≤ 281474976710656) && decide (((a_0.n : Nat) : Int) ≤ 9223372036854775807)))) then
    (L (fun w0 go0 => F_laws_toVipS_B0 fu a_0 (Int.toNat ((a_0.n : Nat) : Int)) (Int.toNat ((a_0.n : Nat) : Int)) (fun z59 => (some (⟨none, (Int.toNat ((a_0.n : Nat) : Int)), z59⟩ : (Sl S_impl_Vip)))) w0.1 w0.2 (fun q0 q1 =>
    go0 (q0, q1))) fu ((0, (fun _ => (⟨0, 0, 0, (⟨(some true), 0, (fun _ => dflt .i64)⟩ : (Sl Int))⟩ : S_impl_Vip))) : Int × (Nat → S_impl_Vip))) else none)
def pcf_laws_toVipS (fu : Nat) (f : Nat) (xs : List (D RT den)) : Option (Out RT den) := match f with | 98 => S_laws_toVip fu xs | _ => none
def pcx_laws_toVipS (fu : Nat) (f : Nat) (xs : List (D RT den)) (ins : List (Ob RT den)) : Option (OutX RT den) := none
def pc_laws_toVipS (fu : Nat) : Pc RT den := ⟨pcf_laws_toVipS fu, fun _ => false, fun _ => false, pcx_laws_toVipS fu⟩
def msk_laws_toVipS (b : Nat) : List Nat := match b with | 0 => [1, 2, 5, 6, 7, 8, 9, 10, 11, 12, 13, 14, 15, 16, 17, 18, 19, 20, 21, 22] | 100000 => [0, 1, 4, 5, 6, 7, 8, 9, 10, 11, 12, 13, 14, 15, 16, 17, 18, 19, 20, 21, 22] | _ => []
def ps_laws_toVipS_0 : List (Pat RT) := [.flat (.rs .impl_Vip), .flat .dead, .flat .dead, .flat (.os 0), .flat (.int .i64), .flat .dead, .flat .dead, .flat .dead, .flat .dead, .flat .dead, .flat .dead, .flat .dead, .flat .dead, .flat .dead, .flat .dead, .flat .dead, .flat .dead, .flat .dead, .flat .dead, .flat .dead, .flat .dead, .flat .dead, .flat .dead]
def os_laws_toVipS_0 : List (OP RT) := [.row false .impl_Vip]
def conv_laws_toVipS_0 (r : Raw den ps_laws_toVipS_0 os_laws_toVipS_0) : ((Sl S_impl_Vip) × Nat × Nat) × (Int × (Nat → S_impl_Vip)) := ((r.1.1, r.1.2.2.2.1, r.2.1.1), (r.1.2.2.2.2.1, r.2.1.2))
def back_laws_toVipS_0 (c : (Sl S_impl_Vip) × Nat × Nat) (w : Int × (Nat → S_impl_Vip)) : St RT den := ⟨[(.rs c.1.z .impl_Vip c.1.n c.1.f), .dead, .dead, (.os 0 c.2.1), (.int .i64 w.1), .dead, .dead, .dead, .dead, .dead, .dead, .dead, .dead, .dead, .dead, .dead, .dead, .dead, .dead, .dead, .dead, .dead, .dead], [(.row false .impl_Vip c.2.2 w.2)]⟩
def Bk_laws_toVipS_0 {ρ : Type} (fu : Nat) (c : (Sl S_impl_Vip) × Nat × Nat) (k : Ex → St RT den → Option ρ) (w : Int × (Nat → S_impl_Vip)) (go : (Int × (Nat → S_impl_Vip)) → Option ρ) : Option ρ := F_laws_toVipS_B0 fu c.1 c.2.1 c.2.2 (fun a0 => k (.exit 0) ⟨[.dead, .dead, .dead, (.os 0 c.2.1), .dead, .dead, .dead, .dead, .dead, .dead, .dead, .dead, .dead, .dead, .dead, .dead, .dead, .dead, .dead, .dead, .dead, .dead, .dead], [(.row false .impl_Vip c.2.2 a0)]⟩) w.1 w.2 (fun q0 q1 => go (q0, q1))
def lp_laws_toVipS (fu : Nat) : Lp RT den ((Sl S_impl_Vip)) := fun b s k => match b with | 0 => handle ps_laws_toVipS_0 os_laws_toVipS_0 conv_laws_toVipS_0 (Bk_laws_toVipS_0 fu) fu s k | _ => none
theorem ev_laws_toVipS (fu : Nat) (a_0 : (Sl S_impl_Vip)) : evFun E (pc_laws_toVipS fu) msk_laws_toVipS (lp_laws_toVipS fu) out_sl_impl_Vip 71 [(.rs a_0.z .impl_Vip a_0.n a_0.f)] = F_laws_toVipS fu a_0 := by kernel_rfl
noncomputable def body_laws_toVipS : Code := Tryz.f71.body.getD .skip
noncomputable def lc_laws_toVipS_0 : Code := ((loops 0 body_laws_toVipS).getD 0 (0, .skip)).2
theorem round_laws_toVipS_0 (fu : Nat) (it : St RT den → Option ((Sl S_impl_Vip))) (k : Ex → St RT den → Option ((Sl S_impl_Vip))) c w : evCode E (pc_laws_toVipS fu) msk_laws_toVipS (lp_laws_toVipS fu) 0 lc_laws_toVipS_0 (back_laws_toVipS_0 c w) (after (msk_laws_toVipS 0) (msk_laws_toVipS 100000) 1 it k) = Bk_laws_toVipS_0 fu c k w (fun w => it (back_laws_toVipS_0 c w)) := by kernel_rfl
theorem lpok_laws_toVipS_0 (fu : Nat) : ∀ s k r, lp_laws_toVipS fu 0 s k = some r → ∃ fuel, iter (msk_laws_toVipS 0) (msk_laws_toVipS 100000) s.objs.length (evCode E (pc_laws_toVipS fu) msk_laws_toVipS (lp_laws_toVipS fu) 0 lc_laws_toVipS_0) fuel s k = some r :=
  handle_ok (ps := ps_laws_toVipS_0) (os := os_laws_toVipS_0) (conv := conv_laws_toVipS_0) (B := Bk_laws_toVipS_0 fu) (fu := fu) back_laws_toVipS_0 (fun raw => by kernel_rfl) 1 (fun c w => by kernel_rfl) (round_laws_toVipS_0 fu)
theorem lpok_laws_toVipS (fu : Nat) : LpOk E (pc_laws_toVipS fu) msk_laws_toVipS (lp_laws_toVipS fu) (loops 0 body_laws_toVipS) := loop_all 1 (by kernel_rfl) fun i hi => match i, hi with
  | 0, _ => by
    have h : (loops 0 body_laws_toVipS).getD 0 (0, .skip) = (0, lc_laws_toVipS_0) := by kernel_rfl
    rw [h]; exact lpok_laws_toVipS_0 fu
  | i + 1, hi => absurd hi (by omega)
def S_laws_toVipS (fu : Nat) (xs : List (D RT den)) : Option (Out RT den) := match xs with | [.rs za0_0 .impl_Vip na0_0 fa0_0] => some ⟨(Sl S_impl_Vip), F_laws_toVipS fu (⟨za0_0, na0_0, fa0_0⟩ : (Sl S_impl_Vip)), enc_sl_impl_Vip, fun _ => true⟩ | _ => none
theorem hpc_laws_toVipS (fu : Nat) : ∀ f xs o, pcf_laws_toVipS fu f xs = some o → ∀ y, o.x = some y → Good E Tryz.prog f xs (o.g y) := by
  intro f xs o h
  unfold pcf_laws_toVipS at h
  split at h
  · exact good_laws_toVip fu xs o h
  · cases h
theorem hpx_laws_toVipS (fu : Nat) : ∀ f xs ins o, pcx_laws_toVipS fu f xs ins = some o → ∀ y, o.x = some y → GoodX E Tryz.prog f xs ins (o.g y).1 (o.g y).2 := by
  intro f xs ins o h
  cases h
theorem goodv_laws_toVipS (fu : Nat) (a_0 : (Sl S_impl_Vip)) (y : (Sl S_impl_Vip)) (hy : F_laws_toVipS fu a_0 = some y) : Good E Tryz.prog 71 [(.rs a_0.z .impl_Vip a_0.n a_0.f)] (enc_sl_impl_Vip y) :=
  fun_good E_ok (pc_good (pc := pc_laws_toVipS fu) (hpc_laws_toVipS fu) (hpx_laws_toVipS fu)) (fn := Tryz.f71) (c := body_laws_toVipS) (out := out_sl_impl_Vip) (y := y) (by kernel_rfl) (by kernel_rfl) (by kernel_rfl) (lpok_laws_toVipS fu) (fun d hd => out_sl_impl_Vip_enc d _ hd) ((ev_laws_toVipS fu a_0).trans hy)
theorem good_laws_toVipS (fu : Nat) : ∀ xs o, S_laws_toVipS fu xs = some o → ∀ y, o.x = some y → Good E Tryz.prog 71 xs (o.g y) := by
  intro xs o h y hy
  unfold S_laws_toVipS at h
  split at h
  · rename_i za0_0 na0_0 fa0_0
    cases h
    exact goodv_laws_toVipS fu (⟨za0_0, na0_0, fa0_0⟩ : (Sl S_impl_Vip)) y hy
  · cases h

/-! laws.toConfig -/
def F_laws_toConfig (fu : Nat) (a_0 : S_laws_Config) : Option (S_impl_Config) :=
  ((F_laws_toBackendS fu a_0.Backends).bind fun y54 => ((F_laws_toVipS fu a_0.Vips).bind fun y55 => (some (⟨a_0.Version, y54, y55⟩ : S_impl_Config))))
def pcf_laws_toConfig (fu : Nat) (f : Nat) (xs : List (D RT den)) : Option (Out RT den) := match f with | 70 => S_laws_toBackendS fu xs | 71 => S_laws_toVipS fu xs | _ => none
def pcx_laws_toConfig (fu : Nat) (f : Nat) (xs : List (D RT den)) (ins : List (Ob RT den)) : Option (OutX RT den) := none
def pc_laws_toConfig (fu : Nat) : Pc RT den := ⟨pcf_laws_toConfig fu, fun _ => false, fun _ => false, pcx_laws_toConfig fu⟩
def msk_laws_toConfig (b : Nat) : List Nat := []
def lp_laws_toConfig (fu : Nat) : Lp RT den (S_impl_Config) := fun b s k => none
theorem ev_laws_toConfig (fu : Nat) (a_0 : S_laws_Config) : evFun E (pc_laws_toConfig fu) msk_laws_toConfig (lp_laws_toConfig fu) out_impl_Config 45 [(.agg [(.int .i64 a_0.Version), (.rs a_0.Backends.z .impl_Backend a_0.Backends.n a_0.Backends.f), (.rs a_0.Vips.z .impl_Vip a_0.Vips.n a_0.Vips.f)])] = F_laws_toConfig fu a_0 := by kernel_rfl
noncomputable def body_laws_toConfig : Code := Tryz.f45.body.getD .skip
theorem lpok_laws_toConfig (fu : Nat) : LpOk E (pc_laws_toConfig fu) msk_laws_toConfig (lp_laws_toConfig fu) (loops 0 body_laws_toConfig) := by
  have h : loops 0 body_laws_toConfig = [] := by kernel_rfl
  rw [h]; intro p hp; cases hp
def S_laws_toConfig (fu : Nat) (xs : List (D RT den)) : Option (Out RT den) := match xs with | [.agg [.int .i64 a0_1, .rs za0_2 .impl_Backend na0_2 fa0_2, .rs za0_3 .impl_Vip na0_3 fa0_3]] => some ⟨S_impl_Config, F_laws_toConfig fu (⟨a0_1, (⟨za0_2, na0_2, fa0_2⟩ : (Sl S_impl_Backend)), (⟨za0_3, na0_3, fa0_3⟩ : (Sl S_impl_Vip))⟩ : S_laws_Config), enc_impl_Config, fun _ => true⟩ | _ => none
theorem hpc_laws_toConfig (fu : Nat) : ∀ f xs o, pcf_laws_toConfig fu f xs = some o → ∀ y, o.x = some y → Good E Tryz.prog f xs (o.g y) := by
  intro f xs o h
  unfold pcf_laws_toConfig at h
  split at h
  · exact good_laws_toBackendS fu xs o h
  · exact good_laws_toVipS fu xs o h
  · cases h
theorem hpx_laws_toConfig (fu : Nat) : ∀ f xs ins o, pcx_laws_toConfig fu f xs ins = some o → ∀ y, o.x = some y → GoodX E Tryz.prog f xs ins (o.g y).1 (o.g y).2 := by
  intro f xs ins o h
  cases h
theorem goodv_laws_toConfig (fu : Nat) (a_0 : S_laws_Config) (y : S_impl_Config) (hy : F_laws_toConfig fu a_0 = some y) : Good E Tryz.prog 45 [(.agg [(.int .i64 a_0.Version), (.rs a_0.Backends.z .impl_Backend a_0.Backends.n a_0.Backends.f), (.rs a_0.Vips.z .impl_Vip a_0.Vips.n a_0.Vips.f)])] (enc_impl_Config y) :=
  fun_good E_ok (pc_good (pc := pc_laws_toConfig fu) (hpc_laws_toConfig fu) (hpx_laws_toConfig fu)) (fn := Tryz.f45) (c := body_laws_toConfig) (out := out_impl_Config) (y := y) (by kernel_rfl) (by kernel_rfl) (by kernel_rfl) (lpok_laws_toConfig fu) (fun d hd => out_impl_Config_enc d _ hd) ((ev_laws_toConfig fu a_0).trans hy)
theorem good_laws_toConfig (fu : Nat) : ∀ xs o, S_laws_toConfig fu xs = some o → ∀ y, o.x = some y → Good E Tryz.prog 45 xs (o.g y) := by
  intro xs o h y hy
  unfold S_laws_toConfig at h
  split at h
  · rename_i a0_1 za0_2 na0_2 fa0_2 za0_3 na0_3 fa0_3
    cases h
    exact goodv_laws_toConfig fu (⟨a0_1, (⟨za0_2, na0_2, fa0_2⟩ : (Sl S_impl_Backend)), (⟨za0_3, na0_3, fa0_3⟩ : (Sl S_impl_Vip))⟩ : S_laws_Config) y hy
  · cases h

/-! laws.toWatch -/
def F_laws_toWatch (fu : Nat) (a_0 : S_laws_Watch) : Option (S_impl_Watch) :=
  ((F_laws_toConfig fu a_0.Config).bind fun y53 => (some (⟨a_0.Ready, y53⟩ : S_impl_Watch)))
def pcf_laws_toWatch (fu : Nat) (f : Nat) (xs : List (D RT den)) : Option (Out RT den) := match f with | 45 => S_laws_toConfig fu xs | _ => none
def pcx_laws_toWatch (fu : Nat) (f : Nat) (xs : List (D RT den)) (ins : List (Ob RT den)) : Option (OutX RT den) := none
def pc_laws_toWatch (fu : Nat) : Pc RT den := ⟨pcf_laws_toWatch fu, fun _ => false, fun _ => false, pcx_laws_toWatch fu⟩
def msk_laws_toWatch (b : Nat) : List Nat := []
def lp_laws_toWatch (fu : Nat) : Lp RT den (S_impl_Watch) := fun b s k => none
theorem ev_laws_toWatch (fu : Nat) (a_0 : S_laws_Watch) : evFun E (pc_laws_toWatch fu) msk_laws_toWatch (lp_laws_toWatch fu) out_impl_Watch 18 [(.agg [(.bool a_0.Ready), (.int .i64 a_0.Config.Version), (.rs a_0.Config.Backends.z .impl_Backend a_0.Config.Backends.n a_0.Config.Backends.f), (.rs a_0.Config.Vips.z .impl_Vip a_0.Config.Vips.n a_0.Config.Vips.f)])] = F_laws_toWatch fu a_0 := by kernel_rfl
noncomputable def body_laws_toWatch : Code := Tryz.f18.body.getD .skip
theorem lpok_laws_toWatch (fu : Nat) : LpOk E (pc_laws_toWatch fu) msk_laws_toWatch (lp_laws_toWatch fu) (loops 0 body_laws_toWatch) := by
  have h : loops 0 body_laws_toWatch = [] := by kernel_rfl
  rw [h]; intro p hp; cases hp
def S_laws_toWatch (fu : Nat) (xs : List (D RT den)) : Option (Out RT den) := match xs with | [.agg [.bool a0_1, .int .i64 a0_3, .rs za0_4 .impl_Backend na0_4 fa0_4, .rs za0_5 .impl_Vip na0_5 fa0_5]] => some ⟨S_impl_Watch, F_laws_toWatch fu (⟨a0_1, (⟨a0_3, (⟨za0_4, na0_4, fa0_4⟩ : (Sl S_impl_Backend)), (⟨za0_5, na0_5, fa0_5⟩ : (Sl S_impl_Vip))⟩ : S_laws_Config)⟩ : S_laws_Watch), enc_impl_Watch, fun _ => true⟩ | _ => none
theorem hpc_laws_toWatch (fu : Nat) : ∀ f xs o, pcf_laws_toWatch fu f xs = some o → ∀ y, o.x = some y → Good E Tryz.prog f xs (o.g y) := by
  intro f xs o h
  unfold pcf_laws_toWatch at h
  split at h
  · exact good_laws_toConfig fu xs o h
  · cases h
theorem hpx_laws_toWatch (fu : Nat) : ∀ f xs ins o, pcx_laws_toWatch fu f xs ins = some o → ∀ y, o.x = some y → GoodX E Tryz.prog f xs ins (o.g y).1 (o.g y).2 := by
  intro f xs ins o h
  cases h
theorem goodv_laws_toWatch (fu : Nat) (a_0 : S_laws_Watch) (y : S_impl_Watch) (hy : F_laws_toWatch fu a_0 = some y) : Good E Tryz.prog 18 [(.agg [(.bool a_0.Ready), (.int .i64 a_0.Config.Version), (.rs a_0.Config.Backends.z .impl_Backend a_0.Config.Backends.n a_0.Config.Backends.f), (.rs a_0.Config.Vips.z .impl_Vip a_0.Config.Vips.n a_0.Config.Vips.f)])] (enc_impl_Watch y) :=
  fun_good E_ok (pc_good (pc := pc_laws_toWatch fu) (hpc_laws_toWatch fu) (hpx_laws_toWatch fu)) (fn := Tryz.f18) (c := body_laws_toWatch) (out := out_impl_Watch) (y := y) (by kernel_rfl) (by kernel_rfl) (by kernel_rfl) (lpok_laws_toWatch fu) (fun d hd => out_impl_Watch_enc d _ hd) ((ev_laws_toWatch fu a_0).trans hy)
theorem good_laws_toWatch (fu : Nat) : ∀ xs o, S_laws_toWatch fu xs = some o → ∀ y, o.x = some y → Good E Tryz.prog 18 xs (o.g y) := by
  intro xs o h y hy
  unfold S_laws_toWatch at h
  split at h
  · rename_i a0_1 a0_3 za0_4 na0_4 fa0_4 za0_5 na0_5 fa0_5
    cases h
    exact goodv_laws_toWatch fu (⟨a0_1, (⟨a0_3, (⟨za0_4, na0_4, fa0_4⟩ : (Sl S_impl_Backend)), (⟨za0_5, na0_5, fa0_5⟩ : (Sl S_impl_Vip))⟩ : S_laws_Config)⟩ : S_laws_Watch) y hy
  · cases h

/-! laws.toInt64SS -/
def F_laws_toInt64SS_B0 {ρ : Type} (fu : Nat) (a0_0 : (Sl (Sl Int))) (out3_1 : Nat) (on0_3 : Nat) (k0 : (Nat → (Sl Int)) → Option ρ) (i4_2 : Int) (of0_4 : (Nat → (Sl Int))) (go : Int → (Nat → (Sl Int)) → Option ρ) : Option ρ :=
  (bif (decide (i4_2 < ((a0_0.n : Nat) : Int))) then ((bif (decide (0 ≤ i4_2) && decide ((Int.toNat i4_2) < a0_0.n)) then some () else none : Option Unit).bind fun _ =>
    ((F_laws_toInt64S fu (a0_0.f (Int.toNat i4_2))).bind fun y62 => ((bif (decide (0 ≤ i4_2) && decide ((Int.toNat i4_2) < out3_1)) then some () else none : Option Unit).bind fun _ =>
    (go (IntKind.wrap .i64 (i4_2 + 1)) (fun j => if j = (Int.toNat i4_2) then y62 else of0_4 j))))) else (k0 of0_4))
def F_laws_toInt64SS (fu : Nat) (a_0 : (Sl (Sl Int))) : Option ((Sl (Sl Int))) :=
  (bif (decide (0 ≤ ((a_0.n : Nat) : Int)) && (decide (((a_0.n : Nat) : Int) = ((a_0.n : Nat) : Int)) && (decide ((24 : Int) * ((a_0.n : Nat) : Int) ≤ 281474976710656) && decide (((a_0.n : Nat) : Int) ≤ 9223372036854775807)))) then
    (L (fun w0 go0 => F_laws_toInt64SS_B0 fu a_0 (Int.toNat ((a_0.n : Nat) : Int)) (Int.toNat ((a_0.n : Nat) : Int)) (fun z63 => (some (⟨none, (Int.toNat ((a_0.n : Nat) : Int)),
    z63⟩ : (Sl (Sl Int))))) w0.1 w0.2 (fun q0 q1 => go0 (q0, q1))) fu ((0, (fun _ => (⟨(some true), 0, (fun _ => dflt .i64)⟩ : (Sl Int)))) : Int × (Nat → (Sl Int)))) else none)
def pcf_laws_toInt64SS (fu : Nat) (f : Nat) (xs : List (D RT den)) : Option (Out RT den) := match f with | 46 => S_laws_toInt64S fu xs | _ => none
def pcx_laws_toInt64SS (fu : Nat) (f : Nat) (xs : List (D RT den)) (ins : List (Ob RT den)) : Option (OutX RT den) := none
def pc_laws_toInt64SS (fu : Nat) : Pc RT den := ⟨pcf_laws_toInt64SS fu, fun _ => false, fun _ => false, pcx_laws_toInt64SS fu⟩
def msk_laws_toInt64SS (b : Nat) : List Nat := match b with | 0 => [1, 2, 5, 6, 7, 8, 9, 10, 11, 12, 13, 14, 15, 16, 17, 18, 19, 20, 21, 22] | 100000 => [0, 1, 4, 5, 6, 7, 8, 9, 10, 11, 12, 13, 14, 15, 16, 17, 18, 19, 20, 21, 22] | _ => []
def ps_laws_toInt64SS_0 : List (Pat RT) := [.flat (.rs .sl_i64), .flat .dead, .flat .dead, .flat (.os 0), .flat (.int .i64), .flat .dead, .flat .dead, .flat .dead, .flat .dead, .flat .dead, .flat .dead, .flat .dead, .flat .dead, .flat .dead, .flat .dead, .flat .dead, .flat .dead, .flat .dead, .flat .dead, .flat .dead, .flat .dead, .flat .dead, .flat .dead]
def os_laws_toInt64SS_0 : List (OP RT) := [.row false .sl_i64]
def conv_laws_toInt64SS_0 (r : Raw den ps_laws_toInt64SS_0 os_laws_toInt64SS_0) : ((Sl (Sl Int)) × Nat × Nat) × (Int × (Nat → (Sl Int))) := ((r.1.1, r.1.2.2.2.1, r.2.1.1), (r.1.2.2.2.2.1, r.2.1.2))
def back_laws_toInt64SS_0 (c : (Sl (Sl Int)) × Nat × Nat) (w : Int × (Nat → (Sl Int))) : St RT den := ⟨[(.rs c.1.z .sl_i64 c.1.n c.1.f), .dead, .dead, (.os 0 c.2.1), (.int .i64 w.1), .dead, .dead, .dead, .dead, .dead, .dead, .dead, .dead, .dead, .dead, .dead, .dead, .dead, .dead, .dead, .dead, .dead, .dead], [(.row false .sl_i64 c.2.2 w.2)]⟩
def Bk_laws_toInt64SS_0 {ρ : Type} (fu : Nat) (c : (Sl (Sl Int)) × Nat × Nat) (k : Ex → St RT den → Option ρ) (w : Int × (Nat → (Sl Int))) (go : (Int × (Nat → (Sl Int))) → Option ρ) : Option ρ := F_laws_toInt64SS_B0 fu c.1 c.2.1 c.2.2 (fun a0 => k (.exit 0) ⟨[.dead, .dead, .dead, (.os 0 c.2.1), .dead, .dead, .dead, .dead, .dead, .dead, .dead, .dead, .dead, .dead, .dead, .dead, .dead, .dead, .dead, .dead, .dead, .dead, .dead], [(.row false .sl_i64 c.2.2 a0)]⟩) w.1 w.2 (fun q0 q1 => go (q0, q1))
def lp_laws_toInt64SS (fu : Nat) : Lp RT den ((Sl (Sl Int))) := fun b s k => match b with | 0 => handle ps_laws_toInt64SS_0 os_laws_toInt64SS_0 conv_laws_toInt64SS_0 (Bk_laws_toInt64SS_0 fu) fu s k | _ => none
theorem ev_laws_toInt64SS (fu : Nat) (a_0 : (Sl (Sl Int))) : evFun E (pc_laws_toInt64SS fu) msk_laws_toInt64SS (lp_laws_toInt64SS fu) out_sl_sl_i64 19 [(.rs a_0.z .sl_i64 a_0.n a_0.f)] = F_laws_toInt64SS fu a_0 := by kernel_rfl
noncomputable def body_laws_toInt64SS : Code := Tryz.f19.body.getD .skip
noncomputable def lc_laws_toInt64SS_0 : Code := ((loops 0 body_laws_toInt64SS).getD 0 (0, .skip)).2
theorem round_laws_toInt64SS_0 (fu : Nat) (it : St RT den → Option ((Sl (Sl Int)))) (k : Ex → St RT den → Option ((Sl (Sl Int)))) c w : evCode E (pc_laws_toInt64SS fu) msk_laws_toInt64SS (lp_laws_toInt64SS fu) 0 lc_laws_toInt64SS_0 (back_laws_toInt64SS_0 c w) (after (msk_laws_toInt64SS 0) (msk_laws_toInt64SS 100000) 1 it k) = Bk_laws_toInt64SS_0 fu c k w (fun w => it (back_laws_toInt64SS_0 c w)) := by kernel_rfl
theorem lpok_laws_toInt64SS_0 (fu : Nat) : ∀ s k r, lp_laws_toInt64SS fu 0 s k = some r → ∃ fuel, iter (msk_laws_toInt64SS 0) (msk_laws_toInt64SS 100000) s.objs.length (evCode E (pc_laws_toInt64SS fu) msk_laws_toInt64SS (lp_laws_toInt64SS fu) 0 lc_laws_toInt64SS_0) fuel s k = some r :=
  handle_ok (ps := ps_laws_toInt64SS_0) (os := os_laws_toInt64SS_0) (conv := conv_laws_toInt64SS_0) (B := Bk_laws_toInt64SS_0 fu) (fu := fu) back_laws_toInt64SS_0 (fun raw => by kernel_rfl) 1 (fun c w => by kernel_rfl) (round_laws_toInt64SS_0 fu)
theorem lpok_laws_toInt64SS (fu : Nat) : LpOk E (pc_laws_toInt64SS fu) msk_laws_toInt64SS (lp_laws_toInt64SS fu) (loops 0 body_laws_toInt64SS) := loop_all 1 (by kernel_rfl) fun i hi => match i, hi with
  | 0, _ => by
    have h : (loops 0 body_laws_toInt64SS).getD 0 (0, .skip) = (0, lc_laws_toInt64SS_0) := by kernel_rfl
    rw [h]; exact lpok_laws_toInt64SS_0 fu
  | i + 1, hi => absurd hi (by omega)
def S_laws_toInt64SS (fu : Nat) (xs : List (D RT den)) : Option (Out RT den) := match xs with | [.rs za0_0 .sl_i64 na0_0 fa0_0] => some ⟨(Sl (Sl Int)), F_laws_toInt64SS fu (⟨za0_0, na0_0, fa0_0⟩ : (Sl (Sl Int))), enc_sl_sl_i64, fun _ => true⟩ | _ => none
theorem hpc_laws_toInt64SS (fu : Nat) : ∀ f xs o, pcf_laws_toInt64SS fu f xs = some o → ∀ y, o.x = some y → Good E Tryz.prog f xs (o.g y) := by
  intro f xs o h
  unfold pcf_laws_toInt64SS at h
  split at h
  · exact good_laws_toInt64S fu xs o h
  · cases h
theorem hpx_laws_toInt64SS (fu : Nat) : ∀ f xs ins o, pcx_laws_toInt64SS fu f xs ins = some o → ∀ y, o.x = some y → GoodX E Tryz.prog f xs ins (o.g y).1 (o.g y).2 := by
  intro f xs ins o h
  cases h
theorem goodv_laws_toInt64SS (fu : Nat) (a_0 : (Sl (Sl Int))) (y : (Sl (Sl Int))) (hy : F_laws_toInt64SS fu a_0 = some y) : Good E Tryz.prog 19 [(.rs a_0.z .sl_i64 a_0.n a_0.f)] (enc_sl_sl_i64 y) :=
  fun_good E_ok (pc_good (pc := pc_laws_toInt64SS fu) (hpc_laws_toInt64SS fu) (hpx_laws_toInt64SS fu)) (fn := Tryz.f19) (c := body_laws_toInt64SS) (out := out_sl_sl_i64) (y := y) (by kernel_rfl) (by kernel_rfl) (by kernel_rfl) (lpok_laws_toInt64SS fu) (fun d hd => out_sl_sl_i64_enc d _ hd) ((ev_laws_toInt64SS fu a_0).trans hy)
theorem good_laws_toInt64SS (fu : Nat) : ∀ xs o, S_laws_toInt64SS fu xs = some o → ∀ y, o.x = some y → Good E Tryz.prog 19 xs (o.g y) := by
  intro xs o h y hy
  unfold S_laws_toInt64SS at h
  split at h
  · rename_i za0_0 na0_0 fa0_0
    cases h
    exact goodv_laws_toInt64SS fu (⟨za0_0, na0_0, fa0_0⟩ : (Sl (Sl Int))) y hy
  · cases h
end Go.Proofs.YtmgndndkkeinfaaGreat.Pc
