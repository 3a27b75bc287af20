/- The functions' evaluated forms, each a proved summary. Conditions: none. -/
import Derived.Test.YtokpamekcpbkaaaPcF0
namespace Go.Proofs.Ytokpamekcpbkaaa.Pc
open Go Go.RowKit Go.Proofs Vm
set_option linter.unusedVariables false
set_option linter.unusedSimpArgs false
set_option maxRecDepth 100000
/-! spec.l3Name -/
def F_spec_l3Name (fu : Nat) (name_0 : Int) : Option (Bool) :=
  ((F_spec_l1In fu name_0 1 999).bind fun y153 => (some y153))
def pcf_spec_l3Name (fu : Nat) (f : Nat) (xs : List (D RT den)) : Option (Out RT den) := match f with | 30 => S_spec_l1In fu xs | _ => none
def pcx_spec_l3Name (fu : Nat) (f : Nat) (xs : List (D RT den)) (ins : List (Ob RT den)) : Option (OutX RT den) := none
def pc_spec_l3Name (fu : Nat) : Pc RT den := ⟨pcf_spec_l3Name fu, fun _ => false, fun _ => false, pcx_spec_l3Name fu⟩
def msk_spec_l3Name (b : Nat) : List Nat := []
def lp_spec_l3Name (fu : Nat) : Lp RT den (Bool) := fun b s k => none
theorem ev_spec_l3Name (fu : Nat) (name_0 : Int) : evFun E (pc_spec_l3Name fu) msk_spec_l3Name (lp_spec_l3Name fu) out_bo 45 [(.int .i64 name_0)] = F_spec_l3Name fu name_0 := by kernel_rfl
noncomputable def body_spec_l3Name : Code := Try.f45.body.getD .skip
theorem lpok_spec_l3Name (fu : Nat) : LpOk E (pc_spec_l3Name fu) msk_spec_l3Name (lp_spec_l3Name fu) (loops 0 body_spec_l3Name) := by
  have h : loops 0 body_spec_l3Name = [] := by kernel_rfl
  rw [h]; intro p hp; cases hp
def S_spec_l3Name (fu : Nat) (xs : List (D RT den)) : Option (Out RT den) := match xs with | [.int .i64 a0_0] => some ⟨Bool, F_spec_l3Name fu a0_0, enc_bo, fun _ => true⟩ | _ => none
theorem hpc_spec_l3Name (fu : Nat) : ∀ f xs o, pcf_spec_l3Name fu f xs = some o → ∀ y, o.x = some y → Good E Try.prog f xs (o.g y) := by
  intro f xs o h
  unfold pcf_spec_l3Name at h
  split at h
  · exact good_spec_l1In fu xs o h
  · cases h
theorem hpx_spec_l3Name (fu : Nat) : ∀ f xs ins o, pcx_spec_l3Name fu f xs ins = some o → ∀ y, o.x = some y → GoodX E Try.prog f xs ins (o.g y).1 (o.g y).2 := by
  intro f xs ins o h
  cases h
theorem goodv_spec_l3Name (fu : Nat) (name_0 : Int) (y : Bool) (hy : F_spec_l3Name fu name_0 = some y) : Good E Try.prog 45 [(.int .i64 name_0)] (enc_bo y) :=
  fun_good E_ok (pc_good (pc := pc_spec_l3Name fu) (hpc_spec_l3Name fu) (hpx_spec_l3Name fu)) (fn := Try.f45) (c := body_spec_l3Name) (out := out_bo) (y := y) (by kernel_rfl) (by kernel_rfl) (by kernel_rfl) (lpok_spec_l3Name fu) (fun d hd => out_bo_enc d _ hd) ((ev_spec_l3Name fu name_0).trans hy)
theorem good_spec_l3Name (fu : Nat) : ∀ xs o, S_spec_l3Name fu xs = some o → ∀ y, o.x = some y → Good E Try.prog 45 xs (o.g y) := by
  intro xs o h y hy
  unfold S_spec_l3Name at h
  split at h
  · rename_i a0_0
    cases h
    exact goodv_spec_l3Name fu a0_0 y hy
  · cases h

/-! spec.l2Address -/
def F_spec_l2Address (fu : Nat) (a_0 : Int) : Option (Bool) :=
  ((F_spec_l1In fu a_0 0 4294967295).bind fun y154 => (some y154))
def pcf_spec_l2Address (fu : Nat) (f : Nat) (xs : List (D RT den)) : Option (Out RT den) := match f with | 30 => S_spec_l1In fu xs | _ => none
def pcx_spec_l2Address (fu : Nat) (f : Nat) (xs : List (D RT den)) (ins : List (Ob RT den)) : Option (OutX RT den) := none
def pc_spec_l2Address (fu : Nat) : Pc RT den := ⟨pcf_spec_l2Address fu, fun _ => false, fun _ => false, pcx_spec_l2Address fu⟩
def msk_spec_l2Address (b : Nat) : List Nat := []
def lp_spec_l2Address (fu : Nat) : Lp RT den (Bool) := fun b s k => none
theorem ev_spec_l2Address (fu : Nat) (a_0 : Int) : evFun E (pc_spec_l2Address fu) msk_spec_l2Address (lp_spec_l2Address fu) out_bo 60 [(.int .i64 a_0)] = F_spec_l2Address fu a_0 := by kernel_rfl
noncomputable def body_spec_l2Address : Code := Try.f60.body.getD .skip
theorem lpok_spec_l2Address (fu : Nat) : LpOk E (pc_spec_l2Address fu) msk_spec_l2Address (lp_spec_l2Address fu) (loops 0 body_spec_l2Address) := by
  have h : loops 0 body_spec_l2Address = [] := by kernel_rfl
  rw [h]; intro p hp; cases hp
def S_spec_l2Address (fu : Nat) (xs : List (D RT den)) : Option (Out RT den) := match xs with | [.int .i64 a0_0] => some ⟨Bool, F_spec_l2Address fu a0_0, enc_bo, fun _ => true⟩ | _ => none
theorem hpc_spec_l2Address (fu : Nat) : ∀ f xs o, pcf_spec_l2Address fu f xs = some o → ∀ y, o.x = some y → Good E Try.prog f xs (o.g y) := by
  intro f xs o h
  unfold pcf_spec_l2Address at h
  split at h
  · exact good_spec_l1In fu xs o h
  · cases h
theorem hpx_spec_l2Address (fu : Nat) : ∀ f xs ins o, pcx_spec_l2Address fu f xs ins = some o → ∀ y, o.x = some y → GoodX E Try.prog f xs ins (o.g y).1 (o.g y).2 := by
  intro f xs ins o h
  cases h
theorem goodv_spec_l2Address (fu : Nat) (a_0 : Int) (y : Bool) (hy : F_spec_l2Address fu a_0 = some y) : Good E Try.prog 60 [(.int .i64 a_0)] (enc_bo y) :=
  fun_good E_ok (pc_good (pc := pc_spec_l2Address fu) (hpc_spec_l2Address fu) (hpx_spec_l2Address fu)) (fn := Try.f60) (c := body_spec_l2Address) (out := out_bo) (y := y) (by kernel_rfl) (by kernel_rfl) (by kernel_rfl) (lpok_spec_l2Address fu) (fun d hd => out_bo_enc d _ hd) ((ev_spec_l2Address fu a_0).trans hy)
theorem good_spec_l2Address (fu : Nat) : ∀ xs o, S_spec_l2Address fu xs = some o → ∀ y, o.x = some y → Good E Try.prog 60 xs (o.g y) := by
  intro xs o h y hy
  unfold S_spec_l2Address at h
  split at h
  · rename_i a0_0
    cases h
    exact goodv_spec_l2Address fu a0_0 y hy
  · cases h

/-! spec.l2Port -/
def F_spec_l2Port (fu : Nat) (p_0 : Int) : Option (Bool) :=
  ((F_spec_l1In fu p_0 0 65535).bind fun y160 => (some y160))
def pcf_spec_l2Port (fu : Nat) (f : Nat) (xs : List (D RT den)) : Option (Out RT den) := match f with | 30 => S_spec_l1In fu xs | _ => none
def pcx_spec_l2Port (fu : Nat) (f : Nat) (xs : List (D RT den)) (ins : List (Ob RT den)) : Option (OutX RT den) := none
def pc_spec_l2Port (fu : Nat) : Pc RT den := ⟨pcf_spec_l2Port fu, fun _ => false, fun _ => false, pcx_spec_l2Port fu⟩
def msk_spec_l2Port (b : Nat) : List Nat := []
def lp_spec_l2Port (fu : Nat) : Lp RT den (Bool) := fun b s k => none
theorem ev_spec_l2Port (fu : Nat) (p_0 : Int) : evFun E (pc_spec_l2Port fu) msk_spec_l2Port (lp_spec_l2Port fu) out_bo 64 [(.int .i64 p_0)] = F_spec_l2Port fu p_0 := by kernel_rfl
noncomputable def body_spec_l2Port : Code := Try.f64.body.getD .skip
theorem lpok_spec_l2Port (fu : Nat) : LpOk E (pc_spec_l2Port fu) msk_spec_l2Port (lp_spec_l2Port fu) (loops 0 body_spec_l2Port) := by
  have h : loops 0 body_spec_l2Port = [] := by kernel_rfl
  rw [h]; intro p hp; cases hp
def S_spec_l2Port (fu : Nat) (xs : List (D RT den)) : Option (Out RT den) := match xs with | [.int .i64 a0_0] => some ⟨Bool, F_spec_l2Port fu a0_0, enc_bo, fun _ => true⟩ | _ => none
theorem hpc_spec_l2Port (fu : Nat) : ∀ f xs o, pcf_spec_l2Port fu f xs = some o → ∀ y, o.x = some y → Good E Try.prog f xs (o.g y) := by
  intro f xs o h
  unfold pcf_spec_l2Port at h
  split at h
  · exact good_spec_l1In fu xs o h
  · cases h
theorem hpx_spec_l2Port (fu : Nat) : ∀ f xs ins o, pcx_spec_l2Port fu f xs ins = some o → ∀ y, o.x = some y → GoodX E Try.prog f xs ins (o.g y).1 (o.g y).2 := by
  intro f xs ins o h
  cases h
theorem goodv_spec_l2Port (fu : Nat) (p_0 : Int) (y : Bool) (hy : F_spec_l2Port fu p_0 = some y) : Good E Try.prog 64 [(.int .i64 p_0)] (enc_bo y) :=
  fun_good E_ok (pc_good (pc := pc_spec_l2Port fu) (hpc_spec_l2Port fu) (hpx_spec_l2Port fu)) (fn := Try.f64) (c := body_spec_l2Port) (out := out_bo) (y := y) (by kernel_rfl) (by kernel_rfl) (by kernel_rfl) (lpok_spec_l2Port fu) (fun d hd => out_bo_enc d _ hd) ((ev_spec_l2Port fu p_0).trans hy)
theorem good_spec_l2Port (fu : Nat) : ∀ xs o, S_spec_l2Port fu xs = some o → ∀ y, o.x = some y → Good E Try.prog 64 xs (o.g y) := by
  intro xs o h y hy
  unfold S_spec_l2Port at h
  split at h
  · rename_i a0_0
    cases h
    exact goodv_spec_l2Port fu a0_0 y hy
  · cases h

/-! spec.l5Number -/
def F_spec_l5Number (fu : Nat) (x_0 : S_impl_Cmd) : Option (Bool) :=
  (bif (x_0.Kind == 1) then ((F_spec_l1In fu x_0.Number 0 9).bind fun y155 => (some y155)) else (bif (x_0.Kind == 2) then ((F_spec_l1In fu x_0.Number 0 9).bind fun y156 => (some y156)) else
    (bif (x_0.Kind == 3) then ((F_spec_l1In fu x_0.Number 1 3).bind fun y157 => (some y157)) else (bif (x_0.Kind == 9) then ((F_spec_l1In fu x_0.Number 0 1).bind fun y158 => (some y158)) else
    ((F_spec_l2Port fu x_0.Number).bind fun y159 => (some y159))))))
def pcf_spec_l5Number (fu : Nat) (f : Nat) (xs : List (D RT den)) : Option (Out RT den) := match f with | 30 => S_spec_l1In fu xs | 64 => S_spec_l2Port fu xs | _ => none
def pcx_spec_l5Number (fu : Nat) (f : Nat) (xs : List (D RT den)) (ins : List (Ob RT den)) : Option (OutX RT den) := none
def pc_spec_l5Number (fu : Nat) : Pc RT den := ⟨pcf_spec_l5Number fu, fun _ => false, fun _ => false, pcx_spec_l5Number fu⟩
def msk_spec_l5Number (b : Nat) : List Nat := []
def lp_spec_l5Number (fu : Nat) : Lp RT den (Bool) := fun b s k => none
theorem ev_spec_l5Number (fu : Nat) (x_0 : S_impl_Cmd) : evFun E (pc_spec_l5Number fu) msk_spec_l5Number (lp_spec_l5Number fu) out_bo 61 [(.agg [(.int .i64 x_0.Kind), (.int .i64 x_0.Expect), (.int .i64 x_0.Name), (.int .i64 x_0.Addr), (.int .i64 x_0.Number), (.int .i64 x_0.Proto)])] = F_spec_l5Number fu x_0 := by kernel_rfl
noncomputable def body_spec_l5Number : Code := Try.f61.body.getD .skip
theorem lpok_spec_l5Number (fu : Nat) : LpOk E (pc_spec_l5Number fu) msk_spec_l5Number (lp_spec_l5Number fu) (loops 0 body_spec_l5Number) := by
  have h : loops 0 body_spec_l5Number = [] := by kernel_rfl
  rw [h]; intro p hp; cases hp
def S_spec_l5Number (fu : Nat) (xs : List (D RT den)) : Option (Out RT den) := match xs with | [.agg [.int .i64 a0_1, .int .i64 a0_2, .int .i64 a0_3, .int .i64 a0_4, .int .i64 a0_5, .int .i64 a0_6]] => some ⟨Bool, F_spec_l5Number fu (⟨a0_1, a0_2, a0_3, a0_4, a0_5, a0_6⟩ : S_impl_Cmd), enc_bo, fun _ => true⟩ | _ => none
theorem hpc_spec_l5Number (fu : Nat) : ∀ f xs o, pcf_spec_l5Number fu f xs = some o → ∀ y, o.x = some y → Good E Try.prog f xs (o.g y) := by
  intro f xs o h
  unfold pcf_spec_l5Number at h
  split at h
  · exact good_spec_l1In fu xs o h
  · exact good_spec_l2Port fu xs o h
  · cases h
theorem hpx_spec_l5Number (fu : Nat) : ∀ f xs ins o, pcx_spec_l5Number fu f xs ins = some o → ∀ y, o.x = some y → GoodX E Try.prog f xs ins (o.g y).1 (o.g y).2 := by
  intro f xs ins o h
  cases h
theorem goodv_spec_l5Number (fu : Nat) (x_0 : S_impl_Cmd) (y : Bool) (hy : F_spec_l5Number fu x_0 = some y) : Good E Try.prog 61 [(.agg [(.int .i64 x_0.Kind), (.int .i64 x_0.Expect), (.int .i64 x_0.Name), (.int .i64 x_0.Addr), (.int .i64 x_0.Number), (.int .i64 x_0.Proto)])] (enc_bo y) :=
  fun_good E_ok (pc_good (pc := pc_spec_l5Number fu) (hpc_spec_l5Number fu) (hpx_spec_l5Number fu)) (fn := Try.f61) (c := body_spec_l5Number) (out := out_bo) (y := y) (by kernel_rfl) (by kernel_rfl) (by kernel_rfl) (lpok_spec_l5Number fu) (fun d hd => out_bo_enc d _ hd) ((ev_spec_l5Number fu x_0).trans hy)
theorem good_spec_l5Number (fu : Nat) : ∀ xs o, S_spec_l5Number fu xs = some o → ∀ y, o.x = some y → Good E Try.prog 61 xs (o.g y) := by
  intro xs o h y hy
  unfold S_spec_l5Number at h
  split at h
  · rename_i a0_1 a0_2 a0_3 a0_4 a0_5 a0_6
    cases h
    exact goodv_spec_l5Number fu (⟨a0_1, a0_2, a0_3, a0_4, a0_5, a0_6⟩ : S_impl_Cmd) y hy
  · cases h

/-! spec.l5Proto -/
def F_spec_l5Proto (fu : Nat) (p_0 : Int) : Option (Bool) :=
  (((bif (p_0 == 6) then (some true) else (some (p_0 == 17))) : Option Bool).bind fun m161 => (some m161))
def pcf_spec_l5Proto (fu : Nat) (f : Nat) (xs : List (D RT den)) : Option (Out RT den) := none
def pcx_spec_l5Proto (fu : Nat) (f : Nat) (xs : List (D RT den)) (ins : List (Ob RT den)) : Option (OutX RT den) := none
def pc_spec_l5Proto (fu : Nat) : Pc RT den := ⟨pcf_spec_l5Proto fu, fun _ => false, fun _ => false, pcx_spec_l5Proto fu⟩
def msk_spec_l5Proto (b : Nat) : List Nat := match b with | 200001 => [2] | _ => []
def lp_spec_l5Proto (fu : Nat) : Lp RT den (Bool) := fun b s k => none
theorem ev_spec_l5Proto (fu : Nat) (p_0 : Int) : evFun E (pc_spec_l5Proto fu) msk_spec_l5Proto (lp_spec_l5Proto fu) out_bo 62 [(.int .i64 p_0)] = F_spec_l5Proto fu p_0 := by kernel_rfl
noncomputable def body_spec_l5Proto : Code := Try.f62.body.getD .skip
theorem lpok_spec_l5Proto (fu : Nat) : LpOk E (pc_spec_l5Proto fu) msk_spec_l5Proto (lp_spec_l5Proto fu) (loops 0 body_spec_l5Proto) := by
  have h : loops 0 body_spec_l5Proto = [] := by kernel_rfl
  rw [h]; intro p hp; cases hp
def S_spec_l5Proto (fu : Nat) (xs : List (D RT den)) : Option (Out RT den) := match xs with | [.int .i64 a0_0] => some ⟨Bool, F_spec_l5Proto fu a0_0, enc_bo, fun _ => true⟩ | _ => none
theorem hpc_spec_l5Proto (fu : Nat) : ∀ f xs o, pcf_spec_l5Proto fu f xs = some o → ∀ y, o.x = some y → Good E Try.prog f xs (o.g y) := by
  intro f xs o h
  cases h
theorem hpx_spec_l5Proto (fu : Nat) : ∀ f xs ins o, pcx_spec_l5Proto fu f xs ins = some o → ∀ y, o.x = some y → GoodX E Try.prog f xs ins (o.g y).1 (o.g y).2 := by
  intro f xs ins o h
  cases h
theorem goodv_spec_l5Proto (fu : Nat) (p_0 : Int) (y : Bool) (hy : F_spec_l5Proto fu p_0 = some y) : Good E Try.prog 62 [(.int .i64 p_0)] (enc_bo y) :=
  fun_good E_ok (pc_good (pc := pc_spec_l5Proto fu) (hpc_spec_l5Proto fu) (hpx_spec_l5Proto fu)) (fn := Try.f62) (c := body_spec_l5Proto) (out := out_bo) (y := y) (by kernel_rfl) (by kernel_rfl) (by kernel_rfl) (lpok_spec_l5Proto fu) (fun d hd => out_bo_enc d _ hd) ((ev_spec_l5Proto fu p_0).trans hy)
theorem good_spec_l5Proto (fu : Nat) : ∀ xs o, S_spec_l5Proto fu xs = some o → ∀ y, o.x = some y → Good E Try.prog 62 xs (o.g y) := by
  intro xs o h y hy
  unfold S_spec_l5Proto at h
  split at h
  · rename_i a0_0
    cases h
    exact goodv_spec_l5Proto fu a0_0 y hy
  · cases h

/-! spec.CmdFault -/
def F_spec_CmdFault (fu : Nat) (x_0 : S_impl_Cmd) : Option (Int) :=
  ((F_spec_l1In fu x_0.Kind 1 9).bind fun y116 => (bif (!y116) then (some 1) else ((F_spec_l5Needs fu x_0.Kind).bind fun y117 => (((bif (x_0.Expect != (-1)) then ((F_spec_l5Version fu x_0.Expect).bind fun y118 =>
    (bif (!y118) then (some true) else (bif y117.1 then ((F_spec_l3Name fu x_0.Name).bind fun y119 => (bif (!y119) then (some true) else (bif y117.2.1 then ((F_spec_l2Address fu x_0.Addr).bind fun y120 =>
    (bif (!y120) then (some true) else (bif y117.2.2.1 then ((F_spec_l5Number fu x_0).bind fun y121 => (bif (!y121) then (some true) else (bif y117.2.2.2 then ((F_spec_l5Proto fu x_0.Proto).bind fun y122 =>
    (some (!y122))) else (some false)))) else (bif y117.2.2.2 then ((F_spec_l5Proto fu x_0.Proto).bind fun y123 => (some (!y123))) else (some false))))) else (bif y117.2.2.1 then
    ((F_spec_l5Number fu x_0).bind fun y124 => (bif (!y124) then (some true) else (bif y117.2.2.2 then ((F_spec_l5Proto fu x_0.Proto).bind fun y125 => (some (!y125))) else (some false)))) else
    (bif y117.2.2.2 then ((F_spec_l5Proto fu x_0.Proto).bind fun y126 => (some (!y126))) else (some false)))))) else (bif y117.2.1 then ((F_spec_l2Address fu x_0.Addr).bind fun y127 =>
    (bif (!y127) then (some true) else (bif y117.2.2.1 then ((F_spec_l5Number fu x_0).bind fun y128 => (bif (!y128) then (some true) else (bif y117.2.2.2 then ((F_spec_l5Proto fu x_0.Proto).bind fun y129 =>
    (some (!y129))) else (some false)))) else (bif y117.2.2.2 then ((F_spec_l5Proto fu x_0.Proto).bind fun y130 => (some (!y130))) else (some false))))) else (bif y117.2.2.1 then
    ((F_spec_l5Number fu x_0).bind fun y131 => (bif (!y131) then (some true) else (bif y117.2.2.2 then ((F_spec_l5Proto fu x_0.Proto).bind fun y132 => (some (!y132))) else (some false)))) else
    (bif y117.2.2.2 then ((F_spec_l5Proto fu x_0.Proto).bind fun y133 => (some (!y133))) else (some false))))))) else (bif y117.1 then ((F_spec_l3Name fu x_0.Name).bind fun y134 =>
    (bif (!y134) then (some true) else (bif y117.2.1 then ((F_spec_l2Address fu x_0.Addr).bind fun y135 => (bif (!y135) then (some true) else (bif y117.2.2.1 then ((F_spec_l5Number fu x_0).bind fun y136 =>
    (bif (!y136) then (some true) else (bif y117.2.2.2 then ((F_spec_l5Proto fu x_0.Proto).bind fun y137 => (some (!y137))) else (some false)))) else (bif y117.2.2.2 then
    ((F_spec_l5Proto fu x_0.Proto).bind fun y138 => (some (!y138))) else (some false))))) else (bif y117.2.2.1 then ((F_spec_l5Number fu x_0).bind fun y139 => (bif (!y139) then
    (some true) else (bif y117.2.2.2 then ((F_spec_l5Proto fu x_0.Proto).bind fun y140 => (some (!y140))) else (some false)))) else (bif y117.2.2.2 then ((F_spec_l5Proto fu x_0.Proto).bind fun y141 =>
    (some (!y141))) else (some false)))))) else (bif y117.2.1 then ((F_spec_l2Address fu x_0.Addr).bind fun y142 => (bif (!y142) then (some true) else (bif y117.2.2.1 then
    ((F_spec_l5Number fu x_0).bind fun y143 => (bif (!y143) then (some true) else (bif y117.2.2.2 then ((F_spec_l5Proto fu x_0.Proto).bind fun y144 => (some (!y144))) else (some false)))) else
    (bif y117.2.2.2 then ((F_spec_l5Proto fu x_0.Proto).bind fun y145 => (some (!y145))) else (some false))))) else (bif y117.2.2.1 then ((F_spec_l5Number fu x_0).bind fun y146 =>
    (bif (!y146) then (some true) else (bif y117.2.2.2 then ((F_spec_l5Proto fu x_0.Proto).bind fun y147 => (some (!y147))) else (some false)))) else (bif y117.2.2.2 then
    ((F_spec_l5Proto fu x_0.Proto).bind fun y148 => (some (!y148))) else (some false)))))) : Option Bool).bind fun m149 => (bif m149 then (some 3) else (((bif (!y117.1) then (bif (x_0.Name != 0) then
    (some true) else (bif (!y117.2.1) then (bif (x_0.Addr != 0) then (some true) else (bif (!y117.2.2.1) then (bif (x_0.Number != 0) then (some true) else (bif (!y117.2.2.2) then
    (some (x_0.Proto != 0)) else (some false))) else (bif (!y117.2.2.2) then (some (x_0.Proto != 0)) else (some false)))) else (bif (!y117.2.2.1) then (bif (x_0.Number != 0) then
    (some true) else (bif (!y117.2.2.2) then (some (x_0.Proto != 0)) else (some false))) else (bif (!y117.2.2.2) then (some (x_0.Proto != 0)) else (some false))))) else (bif (!y117.2.1) then
    (bif (x_0.Addr != 0) then (some true) else (bif (!y117.2.2.1) then (bif (x_0.Number != 0) then (some true) else (bif (!y117.2.2.2) then (some (x_0.Proto != 0)) else (some false))) else
    (bif (!y117.2.2.2) then (some (x_0.Proto != 0)) else (some false)))) else (bif (!y117.2.2.1) then (bif (x_0.Number != 0) then (some true) else (bif (!y117.2.2.2) then (some (x_0.Proto != 0)) else
    (some false))) else (bif (!y117.2.2.2) then (some (x_0.Proto != 0)) else (some false))))) : Option Bool).bind fun m150 => (bif m150 then (some 1) else (some 0))))))))
def pcf_spec_CmdFault (fu : Nat) (f : Nat) (xs : List (D RT den)) : Option (Out RT den) := match f with | 30 => S_spec_l1In fu xs | 45 => S_spec_l3Name fu xs | 53 => S_spec_l5Needs fu xs | 59 => S_spec_l5Version fu xs | 60 => S_spec_l2Address fu xs | 61 => S_spec_l5Number fu xs | 62 => S_spec_l5Proto fu xs | _ => none
def pcx_spec_CmdFault (fu : Nat) (f : Nat) (xs : List (D RT den)) (ins : List (Ob RT den)) : Option (OutX RT den) := none
def pc_spec_CmdFault (fu : Nat) : Pc RT den := ⟨pcf_spec_CmdFault fu, fun _ => false, fun _ => false, pcx_spec_CmdFault fu⟩
def msk_spec_CmdFault (b : Nat) : List Nat := match b with | 200004 => [62] | 200006 => [96] | _ => []
def lp_spec_CmdFault (fu : Nat) : Lp RT den (Int) := fun b s k => none
theorem ev_spec_CmdFault (fu : Nat) (x_0 : S_impl_Cmd) : evFun E (pc_spec_CmdFault fu) msk_spec_CmdFault (lp_spec_CmdFault fu) out_i64 54 [(.agg [(.int .i64 x_0.Kind), (.int .i64 x_0.Expect), (.int .i64 x_0.Name), (.int .i64 x_0.Addr), (.int .i64 x_0.Number), (.int .i64 x_0.Proto)])] = F_spec_CmdFault fu x_0 := by kernel_rfl
noncomputable def body_spec_CmdFault : Code := Try.f54.body.getD .skip
theorem lpok_spec_CmdFault (fu : Nat) : LpOk E (pc_spec_CmdFault fu) msk_spec_CmdFault (lp_spec_CmdFault fu) (loops 0 body_spec_CmdFault) := by
  have h : loops 0 body_spec_CmdFault = [] := by kernel_rfl
  rw [h]; intro p hp; cases hp
def S_spec_CmdFault (fu : Nat) (xs : List (D RT den)) : Option (Out RT den) := match xs with | [.agg [.int .i64 a0_1, .int .i64 a0_2, .int .i64 a0_3, .int .i64 a0_4, .int .i64 a0_5, .int .i64 a0_6]] => some ⟨Int, F_spec_CmdFault fu (⟨a0_1, a0_2, a0_3, a0_4, a0_5, a0_6⟩ : S_impl_Cmd), enc_i64, fun _ => true⟩ | _ => none
theorem hpc_spec_CmdFault (fu : Nat) : ∀ f xs o, pcf_spec_CmdFault fu f xs = some o → ∀ y, o.x = some y → Good E Try.prog f xs (o.g y) := by
  intro f xs o h
  unfold pcf_spec_CmdFault at h
  split at h
  · exact good_spec_l1In fu xs o h
  · exact good_spec_l3Name fu xs o h
  · exact good_spec_l5Needs fu xs o h
  · exact good_spec_l5Version fu xs o h
  · exact good_spec_l2Address fu xs o h
  · exact good_spec_l5Number fu xs o h
  · exact good_spec_l5Proto fu xs o h
  · cases h
theorem hpx_spec_CmdFault (fu : Nat) : ∀ f xs ins o, pcx_spec_CmdFault fu f xs ins = some o → ∀ y, o.x = some y → GoodX E Try.prog f xs ins (o.g y).1 (o.g y).2 := by
  intro f xs ins o h
  cases h
theorem goodv_spec_CmdFault (fu : Nat) (x_0 : S_impl_Cmd) (y : Int) (hy : F_spec_CmdFault fu x_0 = some y) : Good E Try.prog 54 [(.agg [(.int .i64 x_0.Kind), (.int .i64 x_0.Expect), (.int .i64 x_0.Name), (.int .i64 x_0.Addr), (.int .i64 x_0.Number), (.int .i64 x_0.Proto)])] (enc_i64 y) :=
  fun_good E_ok (pc_good (pc := pc_spec_CmdFault fu) (hpc_spec_CmdFault fu) (hpx_spec_CmdFault fu)) (fn := Try.f54) (c := body_spec_CmdFault) (out := out_i64) (y := y) (by kernel_rfl) (by kernel_rfl) (by kernel_rfl) (lpok_spec_CmdFault fu) (fun d hd => out_i64_enc d _ hd) ((ev_spec_CmdFault fu x_0).trans hy)
theorem good_spec_CmdFault (fu : Nat) : ∀ xs o, S_spec_CmdFault fu xs = some o → ∀ y, o.x = some y → Good E Try.prog 54 xs (o.g y) := by
  intro xs o h y hy
  unfold S_spec_CmdFault at h
  split at h
  · rename_i a0_1 a0_2 a0_3 a0_4 a0_5 a0_6
    cases h
    exact goodv_spec_CmdFault fu (⟨a0_1, a0_2, a0_3, a0_4, a0_5, a0_6⟩ : S_impl_Cmd) y hy
  · cases h

/-! spec.EntryFault -/
def F_spec_EntryFault (fu : Nat) (x_0 : S_impl_Entry) : Option (Int) :=
  ((((F_spec_l1In fu x_0.Term 1 100000).bind fun y110 => (bif (!y110) then (some true) else ((F_spec_l1In fu x_0.Client 0 999).bind fun y111 => (bif (!y111) then (some true) else
    ((F_spec_l1In fu x_0.Seq 0 1000000).bind fun y112 => (some (!y112))))))) : Option Bool).bind fun m113 => (bif m113 then (some 3) else (bif (!((x_0.Client == 0) == (x_0.Seq == 0))) then
    (some 1) else (bif (x_0.Client != 0) then ((F_spec_CmdFault fu x_0.Cmd).bind fun y114 => (some y114)) else (bif (!((x_0.Cmd.Kind == 0) && ((x_0.Cmd.Expect == 0) &&
    ((x_0.Cmd.Name == 0) && ((x_0.Cmd.Addr == 0) && ((x_0.Cmd.Number == 0) && ((x_0.Cmd.Proto == 0) && true))))))) then (some 1) else (some 0))))))
def pcf_spec_EntryFault (fu : Nat) (f : Nat) (xs : List (D RT den)) : Option (Out RT den) := match f with | 30 => S_spec_l1In fu xs | 54 => S_spec_CmdFault fu xs | _ => none
def pcx_spec_EntryFault (fu : Nat) (f : Nat) (xs : List (D RT den)) (ins : List (Ob RT den)) : Option (OutX RT den) := none
def pc_spec_EntryFault (fu : Nat) : Pc RT den := ⟨pcf_spec_EntryFault fu, fun _ => false, fun _ => false, pcx_spec_EntryFault fu⟩
def msk_spec_EntryFault (b : Nat) : List Nat := match b with | 200001 => [19] | _ => []
def lp_spec_EntryFault (fu : Nat) : Lp RT den (Int) := fun b s k => none
theorem ev_spec_EntryFault (fu : Nat) (x_0 : S_impl_Entry) : evFun E (pc_spec_EntryFault fu) msk_spec_EntryFault (lp_spec_EntryFault fu) out_i64 51 [(.agg [(.int .i64 x_0.Term), (.int .i64 x_0.Client), (.int .i64 x_0.Seq), (.int .i64 x_0.Cmd.Kind), (.int .i64 x_0.Cmd.Expect), (.int .i64 x_0.Cmd.Name), (.int .i64 x_0.Cmd.Addr), (.int .i64 x_0.Cmd.Number), (.int .i64 x_0.Cmd.Proto)])] = F_spec_EntryFault fu x_0 := by kernel_rfl
noncomputable def body_spec_EntryFault : Code := Try.f51.body.getD .skip
theorem lpok_spec_EntryFault (fu : Nat) : LpOk E (pc_spec_EntryFault fu) msk_spec_EntryFault (lp_spec_EntryFault fu) (loops 0 body_spec_EntryFault) := by
  have h : loops 0 body_spec_EntryFault = [] := by kernel_rfl
  rw [h]; intro p hp; cases hp
def S_spec_EntryFault (fu : Nat) (xs : List (D RT den)) : Option (Out RT den) := match xs with | [.agg [.int .i64 a0_1, .int .i64 a0_2, .int .i64 a0_3, .int .i64 a0_5, .int .i64 a0_6, .int .i64 a0_7, .int .i64 a0_8, .int .i64 a0_9, .int .i64 a0_10]] => some ⟨Int, F_spec_EntryFault fu (⟨a0_1, a0_2, a0_3, (⟨a0_5, a0_6, a0_7, a0_8, a0_9, a0_10⟩ : S_impl_Cmd)⟩ : S_impl_Entry), enc_i64, fun _ => true⟩ | _ => none
theorem hpc_spec_EntryFault (fu : Nat) : ∀ f xs o, pcf_spec_EntryFault fu f xs = some o → ∀ y, o.x = some y → Good E Try.prog f xs (o.g y) := by
  intro f xs o h
  unfold pcf_spec_EntryFault at h
  split at h
  · exact good_spec_l1In fu xs o h
  · exact good_spec_CmdFault fu xs o h
  · cases h
theorem hpx_spec_EntryFault (fu : Nat) : ∀ f xs ins o, pcx_spec_EntryFault fu f xs ins = some o → ∀ y, o.x = some y → GoodX E Try.prog f xs ins (o.g y).1 (o.g y).2 := by
  intro f xs ins o h
  cases h
theorem goodv_spec_EntryFault (fu : Nat) (x_0 : S_impl_Entry) (y : Int) (hy : F_spec_EntryFault fu x_0 = some y) : Good E Try.prog 51 [(.agg [(.int .i64 x_0.Term), (.int .i64 x_0.Client), (.int .i64 x_0.Seq), (.int .i64 x_0.Cmd.Kind), (.int .i64 x_0.Cmd.Expect), (.int .i64 x_0.Cmd.Name), (.int .i64 x_0.Cmd.Addr), (.int .i64 x_0.Cmd.Number), (.int .i64 x_0.Cmd.Proto)])] (enc_i64 y) :=
  fun_good E_ok (pc_good (pc := pc_spec_EntryFault fu) (hpc_spec_EntryFault fu) (hpx_spec_EntryFault fu)) (fn := Try.f51) (c := body_spec_EntryFault) (out := out_i64) (y := y) (by kernel_rfl) (by kernel_rfl) (by kernel_rfl) (lpok_spec_EntryFault fu) (fun d hd => out_i64_enc d _ hd) ((ev_spec_EntryFault fu x_0).trans hy)
theorem good_spec_EntryFault (fu : Nat) : ∀ xs o, S_spec_EntryFault fu xs = some o → ∀ y, o.x = some y → Good E Try.prog 51 xs (o.g y) := by
  intro xs o h y hy
  unfold S_spec_EntryFault at h
  split at h
  · rename_i a0_1 a0_2 a0_3 a0_5 a0_6 a0_7 a0_8 a0_9 a0_10
    cases h
    exact goodv_spec_EntryFault fu (⟨a0_1, a0_2, a0_3, (⟨a0_5, a0_6, a0_7, a0_8, a0_9, a0_10⟩ : S_impl_Cmd)⟩ : S_impl_Entry) y hy
  · cases h

/-! spec.LogFault -/
def F_spec_LogFault_B0 {ρ : Type} (fu : Nat) (log0_0 : (Sl S_impl_Entry)) (k0 : Int → Option ρ) (k1 : Option ρ) (k2 : Option ρ) (i3_1 : Int) (go : Int → Option ρ) : Option ρ :=
  (bif (decide (i3_1 < ((log0_0.n : Nat) : Int))) then ((bif (decide (0 ≤ i3_1) && decide ((Int.toNat i3_1) < log0_0.n)) then some () else none : Option Unit).bind fun _ =>
    ((F_spec_EntryFault fu (log0_0.f (Int.toNat i3_1))).bind fun y107 => (bif (y107 != 0) then (k0 y107) else (((bif (decide (i3_1 > 0)) then ((bif (decide (0 ≤ i3_1) && decide ((Int.toNat i3_1) < log0_0.n)) then
    some () else none : Option Unit).bind fun _ => ((bif (decide (0 ≤ (IntKind.wrap .i64 (i3_1 - 1))) && decide ((Int.toNat (IntKind.wrap .i64 (i3_1 - 1))) < log0_0.n)) then some () else
    none : Option Unit).bind fun _ => (some (decide ((log0_0.f (Int.toNat i3_1)).Term < (log0_0.f (Int.toNat (IntKind.wrap .i64 (i3_1 - 1)))).Term))))) else (some false)) : Option Bool).bind fun m108 =>
    (bif m108 then k1 else (go (IntKind.wrap .i64 (i3_1 + 1)))))))) else k2)
def F_spec_LogFault (fu : Nat) (log_0 : (Sl S_impl_Entry)) : Option (Int) :=
  (bif (decide (((log_0.n : Nat) : Int) > 40)) then (some 2) else (L (fun w0 go0 => F_spec_LogFault_B0 fu log_0 (fun z109 => (some z109)) (some 1) (some 0) w0 go0) fu (0 : Int)))
def pcf_spec_LogFault (fu : Nat) (f : Nat) (xs : List (D RT den)) : Option (Out RT den) := match f with | 51 => S_spec_EntryFault fu xs | _ => none
def pcx_spec_LogFault (fu : Nat) (f : Nat) (xs : List (D RT den)) (ins : List (Ob RT den)) : Option (OutX RT den) := none
def pc_spec_LogFault (fu : Nat) : Pc RT den := ⟨pcf_spec_LogFault fu, fun _ => false, fun _ => false, pcx_spec_LogFault fu⟩
def msk_spec_LogFault (b : Nat) : List Nat := match b with | 0 => [1, 2, 4, 5, 6, 7, 8, 9, 10, 11, 12, 13, 14, 15, 16, 17, 18, 19, 20, 21, 22, 23, 24, 25, 26, 27, 28, 29, 30, 31, 32, 33, 34, 35, 36, 37] | 100000 => [0, 1, 3, 4, 5, 6, 7, 8, 9, 10, 11, 12, 13, 14, 15, 16, 17, 18, 19, 20, 21, 22, 23, 24, 25, 26, 27, 28, 29, 30, 31, 32, 33, 34, 35, 36, 37] | 200009 => [37] | _ => []
def ps_spec_LogFault_0 : List (Pat RT) := [.flat (.rs .impl_Entry), .flat .dead, .flat .dead, .flat (.int .i64), .flat .dead, .flat .dead, .flat .dead, .flat .dead, .flat .dead, .flat .dead, .flat .dead, .flat .dead, .flat .dead, .flat .dead, .flat .dead, .flat .dead, .flat .dead, .flat .dead, .flat .dead, .flat .dead, .flat .dead, .flat .dead, .flat .dead, .flat .dead, .flat .dead, .flat .dead, .flat .dead, .flat .dead, .flat .dead, .flat .dead, .flat .dead, .flat .dead, .flat .dead, .flat .dead, .flat .dead, .flat .dead, .flat .dead, .flat .dead]
def os_spec_LogFault_0 : List (OP RT) := []
def conv_spec_LogFault_0 (r : Raw den ps_spec_LogFault_0 os_spec_LogFault_0) : ((Sl S_impl_Entry)) × (Int) := (r.1.1, r.1.2.2.2.1)
def back_spec_LogFault_0 (c : (Sl S_impl_Entry)) (w : Int) : St RT den := ⟨[(.rs c.z .impl_Entry c.n c.f), .dead, .dead, (.int .i64 w), .dead, .dead, .dead, .dead, .dead, .dead, .dead, .dead, .dead, .dead, .dead, .dead, .dead, .dead, .dead, .dead, .dead, .dead, .dead, .dead, .dead, .dead, .dead, .dead, .dead, .dead, .dead, .dead, .dead, .dead, .dead, .dead, .dead, .dead], []⟩
def Bk_spec_LogFault_0 {ρ : Type} (fu : Nat) (c : (Sl S_impl_Entry)) (k : Ex → St RT den → Option ρ) (w : Int) (go : (Int) → Option ρ) : Option ρ := F_spec_LogFault_B0 fu c (fun a0 => k .ret ⟨[.dead, .dead, (.int .i64 a0), .dead, .dead, .dead, .dead, .dead, .dead, .dead, .dead, .dead, .dead, .dead, .dead, .dead, .dead, .dead, .dead, .dead, .dead, .dead, .dead, .dead, .dead, .dead, .dead, .dead, .dead, .dead, .dead, .dead, .dead, .dead, .dead, .dead, .dead, .dead], []⟩) (k .ret ⟨[.dead, .dead, (.int .i64 1), .dead, .dead, .dead, .dead, .dead, .dead, .dead, .dead, .dead, .dead, .dead, .dead, .dead, .dead, .dead, .dead, .dead, .dead, .dead, .dead, .dead, .dead, .dead, .dead, .dead, .dead, .dead, .dead, .dead, .dead, .dead, .dead, .dead, .dead, .dead], []⟩) (k (.exit 0) ⟨[.dead, .dead, .dead, .dead, .dead, .dead, .dead, .dead, .dead, .dead, .dead, .dead, .dead, .dead, .dead, .dead, .dead, .dead, .dead, .dead, .dead, .dead, .dead, .dead, .dead, .dead, .dead, .dead, .dead, .dead, .dead, .dead, .dead, .dead, .dead, .dead, .dead, .dead], []⟩) w go
def lp_spec_LogFault (fu : Nat) : Lp RT den (Int) := fun b s k => match b with | 0 => handle ps_spec_LogFault_0 os_spec_LogFault_0 conv_spec_LogFault_0 (Bk_spec_LogFault_0 fu) fu s k | _ => none
theorem ev_spec_LogFault (fu : Nat) (log_0 : (Sl S_impl_Entry)) : evFun E (pc_spec_LogFault fu) msk_spec_LogFault (lp_spec_LogFault fu) out_i64 36 [(.rs log_0.z .impl_Entry log_0.n log_0.f)] = F_spec_LogFault fu log_0 := by kernel_rfl
noncomputable def body_spec_LogFault : Code := Try.f36.body.getD .skip
noncomputable def lc_spec_LogFault_0 : Code := ((loops 0 body_spec_LogFault).getD 0 (0, .skip)).2
theorem round_spec_LogFault_0 (fu : Nat) (it : St RT den → Option (Int)) (k : Ex → St RT den → Option (Int)) c w : evCode E (pc_spec_LogFault fu) msk_spec_LogFault (lp_spec_LogFault fu) 0 lc_spec_LogFault_0 (back_spec_LogFault_0 c w) (after (msk_spec_LogFault 0) (msk_spec_LogFault 100000) 0 it k) = Bk_spec_LogFault_0 fu c k w (fun w => it (back_spec_LogFault_0 c w)) := by kernel_rfl
theorem lpok_spec_LogFault_0 (fu : Nat) : ∀ s k r, lp_spec_LogFault fu 0 s k = some r → ∃ fuel, iter (msk_spec_LogFault 0) (msk_spec_LogFault 100000) s.objs.length (evCode E (pc_spec_LogFault fu) msk_spec_LogFault (lp_spec_LogFault fu) 0 lc_spec_LogFault_0) fuel s k = some r :=
  handle_ok (ps := ps_spec_LogFault_0) (os := os_spec_LogFault_0) (conv := conv_spec_LogFault_0) (B := Bk_spec_LogFault_0 fu) (fu := fu) back_spec_LogFault_0 (fun raw => by kernel_rfl) 0 (fun c w => by kernel_rfl) (round_spec_LogFault_0 fu)
theorem lpok_spec_LogFault (fu : Nat) : LpOk E (pc_spec_LogFault fu) msk_spec_LogFault (lp_spec_LogFault fu) (loops 0 body_spec_LogFault) := loop_all 1 (by kernel_rfl) fun i hi => match i, hi with
  | 0, _ => by
    have h : (loops 0 body_spec_LogFault).getD 0 (0, .skip) = (0, lc_spec_LogFault_0) := by kernel_rfl
    rw [h]; exact lpok_spec_LogFault_0 fu
  | i + 1, hi => absurd hi (by omega)
def S_spec_LogFault (fu : Nat) (xs : List (D RT den)) : Option (Out RT den) := match xs with | [.rs za0_0 .impl_Entry na0_0 fa0_0] => some ⟨Int, F_spec_LogFault fu (⟨za0_0, na0_0, fa0_0⟩ : (Sl S_impl_Entry)), enc_i64, fun _ => true⟩ | _ => none
theorem hpc_spec_LogFault (fu : Nat) : ∀ f xs o, pcf_spec_LogFault fu f xs = some o → ∀ y, o.x = some y → Good E Try.prog f xs (o.g y) := by
  intro f xs o h
  unfold pcf_spec_LogFault at h
  split at h
  · exact good_spec_EntryFault fu xs o h
  · cases h
theorem hpx_spec_LogFault (fu : Nat) : ∀ f xs ins o, pcx_spec_LogFault fu f xs ins = some o → ∀ y, o.x = some y → GoodX E Try.prog f xs ins (o.g y).1 (o.g y).2 := by
  intro f xs ins o h
  cases h
theorem goodv_spec_LogFault (fu : Nat) (log_0 : (Sl S_impl_Entry)) (y : Int) (hy : F_spec_LogFault fu log_0 = some y) : Good E Try.prog 36 [(.rs log_0.z .impl_Entry log_0.n log_0.f)] (enc_i64 y) :=
  fun_good E_ok (pc_good (pc := pc_spec_LogFault fu) (hpc_spec_LogFault fu) (hpx_spec_LogFault fu)) (fn := Try.f36) (c := body_spec_LogFault) (out := out_i64) (y := y) (by kernel_rfl) (by kernel_rfl) (by kernel_rfl) (lpok_spec_LogFault fu) (fun d hd => out_i64_enc d _ hd) ((ev_spec_LogFault fu log_0).trans hy)
theorem good_spec_LogFault (fu : Nat) : ∀ xs o, S_spec_LogFault fu xs = some o → ∀ y, o.x = some y → Good E Try.prog 36 xs (o.g y) := by
  intro xs o h y hy
  unfold S_spec_LogFault at h
  split at h
  · rename_i za0_0 na0_0 fa0_0
    cases h
    exact goodv_spec_LogFault fu (⟨za0_0, na0_0, fa0_0⟩ : (Sl S_impl_Entry)) y hy
  · cases h

/-! spec.l7Fits -/
def F_spec_l7Fits (fu : Nat) (log_0 : (Sl S_impl_Entry)) (index_1 : Int) (term_2 : Int) : Option (Bool) :=
  (bif (index_1 == 0) then (some (term_2 == 0)) else ((((F_spec_l1In fu index_1 1 ((log_0.n : Nat) : Int)).bind fun y162 => (bif y162 then ((bif (decide (0 ≤ (IntKind.wrap .i64 (index_1 - 1))) &&
    decide ((Int.toNat (IntKind.wrap .i64 (index_1 - 1))) < log_0.n)) then some () else none : Option Unit).bind fun _ => (some ((log_0.f (Int.toNat (IntKind.wrap .i64 (index_1 - 1)))).Term == term_2))) else
    (some false))) : Option Bool).bind fun m163 => (some m163)))
def pcf_spec_l7Fits (fu : Nat) (f : Nat) (xs : List (D RT den)) : Option (Out RT den) := match f with | 30 => S_spec_l1In fu xs | _ => none
def pcx_spec_l7Fits (fu : Nat) (f : Nat) (xs : List (D RT den)) (ins : List (Ob RT den)) : Option (OutX RT den) := none
def pc_spec_l7Fits (fu : Nat) : Pc RT den := ⟨pcf_spec_l7Fits fu, fun _ => false, fun _ => false, pcx_spec_l7Fits fu⟩
def msk_spec_l7Fits (b : Nat) : List Nat := match b with | 200003 => [6] | _ => []
def lp_spec_l7Fits (fu : Nat) : Lp RT den (Bool) := fun b s k => none
theorem ev_spec_l7Fits (fu : Nat) (log_0 : (Sl S_impl_Entry)) (index_1 : Int) (term_2 : Int) : evFun E (pc_spec_l7Fits fu) msk_spec_l7Fits (lp_spec_l7Fits fu) out_bo 37 [(.rs log_0.z .impl_Entry log_0.n log_0.f), (.int .i64 index_1), (.int .i64 term_2)] = F_spec_l7Fits fu log_0 index_1 term_2 := by kernel_rfl
noncomputable def body_spec_l7Fits : Code := Try.f37.body.getD .skip
theorem lpok_spec_l7Fits (fu : Nat) : LpOk E (pc_spec_l7Fits fu) msk_spec_l7Fits (lp_spec_l7Fits fu) (loops 0 body_spec_l7Fits) := by
  have h : loops 0 body_spec_l7Fits = [] := by kernel_rfl
  rw [h]; intro p hp; cases hp
def S_spec_l7Fits (fu : Nat) (xs : List (D RT den)) : Option (Out RT den) := match xs with | [.rs za0_0 .impl_Entry na0_0 fa0_0, .int .i64 a1_0, .int .i64 a2_0] => some ⟨Bool, F_spec_l7Fits fu (⟨za0_0, na0_0, fa0_0⟩ : (Sl S_impl_Entry)) a1_0 a2_0, enc_bo, fun _ => true⟩ | _ => none
theorem hpc_spec_l7Fits (fu : Nat) : ∀ f xs o, pcf_spec_l7Fits fu f xs = some o → ∀ y, o.x = some y → Good E Try.prog f xs (o.g y) := by
  intro f xs o h
  unfold pcf_spec_l7Fits at h
  split at h
  · exact good_spec_l1In fu xs o h
  · cases h
theorem hpx_spec_l7Fits (fu : Nat) : ∀ f xs ins o, pcx_spec_l7Fits fu f xs ins = some o → ∀ y, o.x = some y → GoodX E Try.prog f xs ins (o.g y).1 (o.g y).2 := by
  intro f xs ins o h
  cases h
theorem goodv_spec_l7Fits (fu : Nat) (log_0 : (Sl S_impl_Entry)) (index_1 : Int) (term_2 : Int) (y : Bool) (hy : F_spec_l7Fits fu log_0 index_1 term_2 = some y) : Good E Try.prog 37 [(.rs log_0.z .impl_Entry log_0.n log_0.f), (.int .i64 index_1), (.int .i64 term_2)] (enc_bo y) :=
  fun_good E_ok (pc_good (pc := pc_spec_l7Fits fu) (hpc_spec_l7Fits fu) (hpx_spec_l7Fits fu)) (fn := Try.f37) (c := body_spec_l7Fits) (out := out_bo) (y := y) (by kernel_rfl) (by kernel_rfl) (by kernel_rfl) (lpok_spec_l7Fits fu) (fun d hd => out_bo_enc d _ hd) ((ev_spec_l7Fits fu log_0 index_1 term_2).trans hy)
theorem good_spec_l7Fits (fu : Nat) : ∀ xs o, S_spec_l7Fits fu xs = some o → ∀ y, o.x = some y → Good E Try.prog 37 xs (o.g y) := by
  intro xs o h y hy
  unfold S_spec_l7Fits at h
  split at h
  · rename_i za0_0 na0_0 fa0_0 a1_0 a2_0
    cases h
    exact goodv_spec_l7Fits fu (⟨za0_0, na0_0, fa0_0⟩ : (Sl S_impl_Entry)) a1_0 a2_0 y hy
  · cases h

/-! spec.TakeEntries -/
def F_spec_TakeEntries (fu : Nat) (log_0 : (Sl S_impl_Entry)) (index_1 : Int) (term_2 : Int) (more_3 : (Sl S_impl_Entry)) : Option (S_impl_EntriesResult) :=
  ((F_spec_LogFault fu log_0).bind fun y94 => (bif (y94 != 0) then (some (⟨y94, (⟨(some true), 0, (fun _ => dflt .impl_Entry)⟩ : (Sl S_impl_Entry))⟩ : S_impl_EntriesResult)) else
    ((F_spec_LogFault fu more_3).bind fun y95 => (bif (y95 != 0) then (some (⟨y95, (⟨(some true), 0, (fun _ => dflt .impl_Entry)⟩ : (Sl S_impl_Entry))⟩ : S_impl_EntriesResult)) else
    ((F_spec_l7Fits fu log_0 index_1 term_2).bind fun y96 => (bif (!y96) then (some (⟨9, (⟨(some true), 0, (fun _ => dflt .impl_Entry)⟩ : (Sl S_impl_Entry))⟩ : S_impl_EntriesResult)) else
    (((bif (decide (((more_3.n : Nat) : Int) > 0)) then ((bif (decide (0 ≤ (0 : Int)) && decide ((Int.toNat 0) < more_3.n)) then some () else none : Option Unit).bind fun _ => (some (decide ((more_3.f (Int.toNat 0)).Term < term_2)))) else
    (some false)) : Option Bool).bind fun m97 => (bif m97 then (some (⟨1, (⟨(some true), 0, (fun _ => dflt .impl_Entry)⟩ : (Sl S_impl_Entry))⟩ : S_impl_EntriesResult)) else
    ((F_spec_l7Take_H fu log_0 index_1 more_3).bind fun y98 => (bif (decide (((y98.n : Nat) : Int) > 40)) then (some (⟨2, (⟨(some true), 0, (fun _ => dflt .impl_Entry)⟩ : (Sl S_impl_Entry))⟩ : S_impl_EntriesResult)) else
    (some (⟨0, (⟨none, y98.n, y98.f⟩ : (Sl S_impl_Entry))⟩ : S_impl_EntriesResult))))))))))))
noncomputable def pcf_spec_TakeEntries (fu : Nat) (f : Nat) (xs : List (D RT den)) : Option (Out RT den) := match f with | 36 => S_spec_LogFault fu xs | 37 => S_spec_l7Fits fu xs | 38 => (S_spec_l7Take_H fu xs []).bind fun o => some (o.frz E) | _ => none
def pcx_spec_TakeEntries (fu : Nat) (f : Nat) (xs : List (D RT den)) (ins : List (Ob RT den)) : Option (OutX RT den) := none
noncomputable def pc_spec_TakeEntries (fu : Nat) : Pc RT den := ⟨pcf_spec_TakeEntries fu, fun _ => false, fun _ => false, pcx_spec_TakeEntries fu⟩
def msk_spec_TakeEntries (b : Nat) : List Nat := match b with | 200009 => [40] | _ => []
def lp_spec_TakeEntries (fu : Nat) : Lp RT den (S_impl_EntriesResult) := fun b s k => none
theorem ev_spec_TakeEntries (fu : Nat) (log_0 : (Sl S_impl_Entry)) (index_1 : Int) (term_2 : Int) (more_3 : (Sl S_impl_Entry)) : evFun E (pc_spec_TakeEntries fu) msk_spec_TakeEntries (lp_spec_TakeEntries fu) out_impl_EntriesResult 13 [(.rs log_0.z .impl_Entry log_0.n log_0.f), (.int .i64 index_1), (.int .i64 term_2), (.rs more_3.z .impl_Entry more_3.n more_3.f)] = F_spec_TakeEntries fu log_0 index_1 term_2 more_3 := by kernel_rfl
noncomputable def body_spec_TakeEntries : Code := Try.f13.body.getD .skip
theorem lpok_spec_TakeEntries (fu : Nat) : LpOk E (pc_spec_TakeEntries fu) msk_spec_TakeEntries (lp_spec_TakeEntries fu) (loops 0 body_spec_TakeEntries) := by
  have h : loops 0 body_spec_TakeEntries = [] := by kernel_rfl
  rw [h]; intro p hp; cases hp
def S_spec_TakeEntries (fu : Nat) (xs : List (D RT den)) : Option (Out RT den) := match xs with | [.rs za0_0 .impl_Entry na0_0 fa0_0, .int .i64 a1_0, .int .i64 a2_0, .rs za3_0 .impl_Entry na3_0 fa3_0] => some ⟨S_impl_EntriesResult, F_spec_TakeEntries fu (⟨za0_0, na0_0, fa0_0⟩ : (Sl S_impl_Entry)) a1_0 a2_0 (⟨za3_0, na3_0, fa3_0⟩ : (Sl S_impl_Entry)), enc_impl_EntriesResult, fun _ => true⟩ | _ => none
theorem hpc_spec_TakeEntries (fu : Nat) : ∀ f xs o, pcf_spec_TakeEntries fu f xs = some o → ∀ y, o.x = some y → Good E Try.prog f xs (o.g y) := by
  intro f xs o h
  unfold pcf_spec_TakeEntries at h
  split at h
  · exact good_spec_LogFault fu xs o h
  · exact good_spec_l7Fits fu xs o h
  · exact good_frz E_ok (good_spec_l7Take_H fu) xs o h
  · cases h
theorem hpx_spec_TakeEntries (fu : Nat) : ∀ f xs ins o, pcx_spec_TakeEntries fu f xs ins = some o → ∀ y, o.x = some y → GoodX E Try.prog f xs ins (o.g y).1 (o.g y).2 := by
  intro f xs ins o h
  cases h
theorem goodv_spec_TakeEntries (fu : Nat) (log_0 : (Sl S_impl_Entry)) (index_1 : Int) (term_2 : Int) (more_3 : (Sl S_impl_Entry)) (y : S_impl_EntriesResult) (hy : F_spec_TakeEntries fu log_0 index_1 term_2 more_3 = some y) : Good E Try.prog 13 [(.rs log_0.z .impl_Entry log_0.n log_0.f), (.int .i64 index_1), (.int .i64 term_2), (.rs more_3.z .impl_Entry more_3.n more_3.f)] (enc_impl_EntriesResult y) :=
  fun_good E_ok (pc_good (pc := pc_spec_TakeEntries fu) (hpc_spec_TakeEntries fu) (hpx_spec_TakeEntries fu)) (fn := Try.f13) (c := body_spec_TakeEntries) (out := out_impl_EntriesResult) (y := y) (by kernel_rfl) (by kernel_rfl) (by kernel_rfl) (lpok_spec_TakeEntries fu) (fun d hd => out_impl_EntriesResult_enc d _ hd) ((ev_spec_TakeEntries fu log_0 index_1 term_2 more_3).trans hy)
theorem good_spec_TakeEntries (fu : Nat) : ∀ xs o, S_spec_TakeEntries fu xs = some o → ∀ y, o.x = some y → Good E Try.prog 13 xs (o.g y) := by
  intro xs o h y hy
  unfold S_spec_TakeEntries at h
  split at h
  · rename_i za0_0 na0_0 fa0_0 a1_0 a2_0 za3_0 na3_0 fa3_0
    cases h
    exact goodv_spec_TakeEntries fu (⟨za0_0, na0_0, fa0_0⟩ : (Sl S_impl_Entry)) a1_0 a2_0 (⟨za3_0, na3_0, fa3_0⟩ : (Sl S_impl_Entry)) y hy
  · cases h

/-! laws.lwBig -/
def F_laws_lwBig (fu : Nat) (code_0 : (Sl Int)) : Option (Bool) :=
  (some (decide (((code_0.n : Nat) : Int) > 1048576)))
def pcf_laws_lwBig (fu : Nat) (f : Nat) (xs : List (D RT den)) : Option (Out RT den) := none
def pcx_laws_lwBig (fu : Nat) (f : Nat) (xs : List (D RT den)) (ins : List (Ob RT den)) : Option (OutX RT den) := none
def pc_laws_lwBig (fu : Nat) : Pc RT den := ⟨pcf_laws_lwBig fu, fun _ => false, fun _ => false, pcx_laws_lwBig fu⟩
def msk_laws_lwBig (b : Nat) : List Nat := []
def lp_laws_lwBig (fu : Nat) : Lp RT den (Bool) := fun b s k => none
theorem ev_laws_lwBig (fu : Nat) (code_0 : (Sl Int)) : evFun E (pc_laws_lwBig fu) msk_laws_lwBig (lp_laws_lwBig fu) out_bo 5 [(.rs code_0.z .u8 code_0.n code_0.f)] = F_laws_lwBig fu code_0 := by kernel_rfl
noncomputable def body_laws_lwBig : Code := Try.f5.body.getD .skip
theorem lpok_laws_lwBig (fu : Nat) : LpOk E (pc_laws_lwBig fu) msk_laws_lwBig (lp_laws_lwBig fu) (loops 0 body_laws_lwBig) := by
  have h : loops 0 body_laws_lwBig = [] := by kernel_rfl
  rw [h]; intro p hp; cases hp
def S_laws_lwBig (fu : Nat) (xs : List (D RT den)) : Option (Out RT den) := match xs with | [.rs za0_0 .u8 na0_0 fa0_0] => some ⟨Bool, F_laws_lwBig fu (⟨za0_0, na0_0, fa0_0⟩ : (Sl Int)), enc_bo, fun _ => true⟩ | _ => none
theorem hpc_laws_lwBig (fu : Nat) : ∀ f xs o, pcf_laws_lwBig fu f xs = some o → ∀ y, o.x = some y → Good E Try.prog f xs (o.g y) := by
  intro f xs o h
  cases h
theorem hpx_laws_lwBig (fu : Nat) : ∀ f xs ins o, pcx_laws_lwBig fu f xs ins = some o → ∀ y, o.x = some y → GoodX E Try.prog f xs ins (o.g y).1 (o.g y).2 := by
  intro f xs ins o h
  cases h
theorem goodv_laws_lwBig (fu : Nat) (code_0 : (Sl Int)) (y : Bool) (hy : F_laws_lwBig fu code_0 = some y) : Good E Try.prog 5 [(.rs code_0.z .u8 code_0.n code_0.f)] (enc_bo y) :=
  fun_good E_ok (pc_good (pc := pc_laws_lwBig fu) (hpc_laws_lwBig fu) (hpx_laws_lwBig fu)) (fn := Try.f5) (c := body_laws_lwBig) (out := out_bo) (y := y) (by kernel_rfl) (by kernel_rfl) (by kernel_rfl) (lpok_laws_lwBig fu) (fun d hd => out_bo_enc d _ hd) ((ev_laws_lwBig fu code_0).trans hy)
theorem good_laws_lwBig (fu : Nat) : ∀ xs o, S_laws_lwBig fu xs = some o → ∀ y, o.x = some y → Good E Try.prog 5 xs (o.g y) := by
  intro xs o h y hy
  unfold S_laws_lwBig at h
  split at h
  · rename_i za0_0 na0_0 fa0_0
    cases h
    exact goodv_laws_lwBig fu (⟨za0_0, na0_0, fa0_0⟩ : (Sl Int)) y hy
  · cases h

/-! spec.l1Source -/
def F_spec_l1Source_M (fu : Nat) (code_0 : (Sl Int)) : Option ((Sl Int) × Int) :=
  (some (code_0, 0))
def pcf_spec_l1Source_M (fu : Nat) (f : Nat) (xs : List (D RT den)) : Option (Out RT den) := none
def pcx_spec_l1Source_M (fu : Nat) (f : Nat) (xs : List (D RT den)) (ins : List (Ob RT den)) : Option (OutX RT den) := none
def pc_spec_l1Source_M (fu : Nat) : Pc RT den := ⟨pcf_spec_l1Source_M fu, fun _ => false, fun _ => false, pcx_spec_l1Source_M fu⟩
def msk_spec_l1Source_M (b : Nat) : List Nat := []
def lp_spec_l1Source_M (fu : Nat) : Lp RT den ((Sl Int) × Int) := fun b s k => none
def pso_spec_l1Source_M : List (Pat RT) := [.flat (.ref 0 0)]
def oso_spec_l1Source_M : List (OP RT) := [.box false [(.rs .u8), (.int .i64)]]
def conv_spec_l1Source_M (r : Raw den pso_spec_l1Source_M oso_spec_l1Source_M) : (Sl Int) × Int := (r.2.1.1, r.2.1.2.1)
def enc_spec_l1Source_M (y : (Sl Int) × Int) : D RT den × List (Ob RT den) := ((.ref 0 0), [(.box false [(.rs y.1.z .u8 y.1.n y.1.f), (.int .i64 y.2)])])
def out_spec_l1Source_M (d : D RT den) (os : List (Ob RT den)) : Option ((Sl Int) × Int) := (unSt pso_spec_l1Source_M oso_spec_l1Source_M ⟨[d], os⟩).bind fun v => some (conv_spec_l1Source_M v.1)
theorem out_spec_l1Source_M_enc (d : D RT den) (os : List (Ob RT den)) (y : (Sl Int) × Int) (h : out_spec_l1Source_M d os = some y) : d = (enc_spec_l1Source_M y).1 ∧ os = (enc_spec_l1Source_M y).2 :=
  outM (conv := conv_spec_l1Source_M) (enc := enc_spec_l1Source_M) (fun raw => by kernel_rfl) h
theorem ev_spec_l1Source_M (fu : Nat) (code_0 : (Sl Int)) : evFunM E false (pc_spec_l1Source_M fu) msk_spec_l1Source_M (lp_spec_l1Source_M fu) out_spec_l1Source_M 20 [(.rs code_0.z .u8 code_0.n code_0.f)] [] = F_spec_l1Source_M fu code_0 := by kernel_rfl
noncomputable def body_spec_l1Source_M : Code := Try.f20.body.getD .skip
theorem lpok_spec_l1Source_M (fu : Nat) : LpOk E (pc_spec_l1Source_M fu) msk_spec_l1Source_M (lp_spec_l1Source_M fu) (loops 0 body_spec_l1Source_M) := by
  have h : loops 0 body_spec_l1Source_M = [] := by kernel_rfl
  rw [h]; intro p hp; cases hp
def S_spec_l1Source_M (fu : Nat) (xs : List (D RT den)) (ins : List (Ob RT den)) : Option (OutX RT den) := match xs, ins with | [.rs za0_0 .u8 na0_0 fa0_0], [] => some ⟨(Sl Int) × Int, F_spec_l1Source_M fu (⟨za0_0, na0_0, fa0_0⟩ : (Sl Int)), enc_spec_l1Source_M⟩ | _, _ => none
theorem hpc_spec_l1Source_M (fu : Nat) : ∀ f xs o, pcf_spec_l1Source_M fu f xs = some o → ∀ y, o.x = some y → Good E Try.prog f xs (o.g y) := by
  intro f xs o h
  cases h
theorem hpx_spec_l1Source_M (fu : Nat) : ∀ f xs ins o, pcx_spec_l1Source_M fu f xs ins = some o → ∀ y, o.x = some y → GoodX E Try.prog f xs ins (o.g y).1 (o.g y).2 := by
  intro f xs ins o h
  cases h
theorem goodv_spec_l1Source_M (fu : Nat) (code_0 : (Sl Int)) (y : (Sl Int) × Int) (hy : F_spec_l1Source_M fu code_0 = some y) : GoodX E Try.prog 20 [(.rs code_0.z .u8 code_0.n code_0.f)] [] (enc_spec_l1Source_M y).1 (enc_spec_l1Source_M y).2 :=
  funM_good (ke := false) E_ok (pc_good (pc := pc_spec_l1Source_M fu) (hpc_spec_l1Source_M fu) (hpx_spec_l1Source_M fu)) (fn := Try.f20) (c := body_spec_l1Source_M) (out := out_spec_l1Source_M) (y := y) (by kernel_rfl) (by kernel_rfl) (by kernel_rfl) (lpok_spec_l1Source_M fu) (by kernel_rfl) (Nat.le_of_ble_eq_true (by kernel_rfl)) (fun d os hd => out_spec_l1Source_M_enc d os _ hd) ((ev_spec_l1Source_M fu code_0).trans hy)
theorem good_spec_l1Source_M (fu : Nat) : ∀ xs ins o, S_spec_l1Source_M fu xs ins = some o → ∀ y, o.x = some y → GoodX E Try.prog 20 xs ins (o.g y).1 (o.g y).2 := by
  intro xs ins o h y hy
  unfold S_spec_l1Source_M at h
  split at h
  · rename_i za0_0 na0_0 fa0_0
    cases h
    exact goodv_spec_l1Source_M fu (⟨za0_0, na0_0, fa0_0⟩ : (Sl Int)) y hy
  · cases h

/-! spec.l1Next -/
def F_spec_l1Next_M (fu : Nat) (n_1 : Int) (b0_1 : (Sl Int)) (b0_2 : Int) : Option (Int × (Sl Int) × Int) :=
  (bif (decide (n_1 < 1)) then (some (0, b0_1, (IntKind.wrap .i64 (b0_2 + 1)))) else (bif (((b0_1.n : Nat) : Int) == 0) then ((bif (!decide (n_1 = 0)) then some () else none : Option Unit).bind fun _ =>
    (some ((Int.tmod (IntKind.wrap .i64 ((IntKind.wrap .i64 ((IntKind.wrap .i64 (b0_2 + 1)) - 1)) * 7)) n_1), b0_1, (IntKind.wrap .i64 (b0_2 + 1))))) else ((bif (!decide (((b0_1.n : Nat) : Int) = 0)) then
    some () else none : Option Unit).bind fun _ => ((bif (decide (0 ≤ (Int.tmod (IntKind.wrap .i64 ((IntKind.wrap .i64 (b0_2 + 1)) - 1)) ((b0_1.n : Nat) : Int))) && decide ((Int.toNat (Int.tmod (IntKind.wrap .i64 ((IntKind.wrap .i64 (b0_2 + 1)) - 1)) ((b0_1.n : Nat) : Int))) < b0_1.n)) then
    some () else none : Option Unit).bind fun _ => ((bif (!decide (((b0_1.n : Nat) : Int) = 0)) then some () else none : Option Unit).bind fun _ => (bif (decide (n_1 > 200)) then
    ((bif (!decide (((b0_1.n : Nat) : Int) = 0)) then some () else none : Option Unit).bind fun _ => ((bif (decide (0 ≤ (Int.tmod (IntKind.wrap .i64 ((IntKind.wrap .i64 ((IntKind.wrap .i64 (b0_2 + 1)) - 1)) + 1)) ((b0_1.n : Nat) : Int))) &&
    decide ((Int.toNat (Int.tmod (IntKind.wrap .i64 ((IntKind.wrap .i64 ((IntKind.wrap .i64 (b0_2 + 1)) - 1)) + 1)) ((b0_1.n : Nat) : Int))) < b0_1.n)) then some () else none : Option Unit).bind fun _ =>
    ((bif (!decide (n_1 = 0)) then some () else none : Option Unit).bind fun _ => (some ((Int.tmod (IntKind.wrap .i64 ((IntKind.wrap .i64 ((IntKind.wrap .i64 ((IntKind.wrap .i64 ((IntKind.wrap .i64 (b0_1.f (Int.toNat (Int.tmod (IntKind.wrap .i64 ((IntKind.wrap .i64 (b0_2 + 1)) - 1)) ((b0_1.n : Nat) : Int))))) + (IntKind.wrap .i64 ((IntKind.wrap .i64 (Int.tdiv (IntKind.wrap .i64 ((IntKind.wrap .i64 (b0_2 + 1)) - 1)) ((b0_1.n : Nat) : Int))) * 37)))) * 251)) + (IntKind.wrap .i64 ((IntKind.wrap .i64 (b0_1.f (Int.toNat (Int.tmod (IntKind.wrap .i64 ((IntKind.wrap .i64 ((IntKind.wrap .i64 (b0_2 + 1)) - 1)) + 1)) ((b0_1.n : Nat) : Int))))) * 13)))) + (IntKind.wrap .i64 ((IntKind.wrap .i64 (b0_2 + 1)) - 1)))) n_1),
    b0_1, (IntKind.wrap .i64 (b0_2 + 1))))))) else ((bif (!decide (n_1 = 0)) then some () else none : Option Unit).bind fun _ => (some ((Int.tmod (IntKind.wrap .i64 ((IntKind.wrap .i64 (b0_1.f (Int.toNat (Int.tmod (IntKind.wrap .i64 ((IntKind.wrap .i64 (b0_2 + 1)) - 1)) ((b0_1.n : Nat) : Int))))) + (IntKind.wrap .i64 ((IntKind.wrap .i64 (Int.tdiv (IntKind.wrap .i64 ((IntKind.wrap .i64 (b0_2 + 1)) - 1)) ((b0_1.n : Nat) : Int))) * 37)))) n_1),
    b0_1, (IntKind.wrap .i64 (b0_2 + 1)))))))))))
def pcf_spec_l1Next_M (fu : Nat) (f : Nat) (xs : List (D RT den)) : Option (Out RT den) := none
def pcx_spec_l1Next_M (fu : Nat) (f : Nat) (xs : List (D RT den)) (ins : List (Ob RT den)) : Option (OutX RT den) := none
def pc_spec_l1Next_M (fu : Nat) : Pc RT den := ⟨pcf_spec_l1Next_M fu, fun _ => false, fun _ => false, pcx_spec_l1Next_M fu⟩
def msk_spec_l1Next_M (b : Nat) : List Nat := []
def lp_spec_l1Next_M (fu : Nat) : Lp RT den (Int × (Sl Int) × Int) := fun b s k => none
def pso_spec_l1Next_M : List (Pat RT) := [.flat (.int .i64)]
def oso_spec_l1Next_M : List (OP RT) := [.box true [(.rs .u8), (.int .i64)]]
def conv_spec_l1Next_M (r : Raw den pso_spec_l1Next_M oso_spec_l1Next_M) : Int × (Sl Int) × Int := (r.1.1, r.2.1.1, r.2.1.2.1)
def enc_spec_l1Next_M (y : Int × (Sl Int) × Int) : D RT den × List (Ob RT den) := ((.int .i64 y.1), [(.box true [(.rs y.2.1.z .u8 y.2.1.n y.2.1.f), (.int .i64 y.2.2)])])
def out_spec_l1Next_M (d : D RT den) (os : List (Ob RT den)) : Option (Int × (Sl Int) × Int) := (unSt pso_spec_l1Next_M oso_spec_l1Next_M ⟨[d], os⟩).bind fun v => some (conv_spec_l1Next_M v.1)
theorem out_spec_l1Next_M_enc (d : D RT den) (os : List (Ob RT den)) (y : Int × (Sl Int) × Int) (h : out_spec_l1Next_M d os = some y) : d = (enc_spec_l1Next_M y).1 ∧ os = (enc_spec_l1Next_M y).2 :=
  outM (conv := conv_spec_l1Next_M) (enc := enc_spec_l1Next_M) (fun raw => by kernel_rfl) h
theorem ev_spec_l1Next_M (fu : Nat) (n_1 : Int) (b0_1 : (Sl Int)) (b0_2 : Int) : evFunM E false (pc_spec_l1Next_M fu) msk_spec_l1Next_M (lp_spec_l1Next_M fu) out_spec_l1Next_M 32 [(.ref 0 0), (.int .i64 n_1)] [(.box true [(.rs b0_1.z .u8 b0_1.n b0_1.f), (.int .i64 b0_2)])] = F_spec_l1Next_M fu n_1 b0_1 b0_2 := by kernel_rfl
noncomputable def body_spec_l1Next_M : Code := Try.f32.body.getD .skip
theorem lpok_spec_l1Next_M (fu : Nat) : LpOk E (pc_spec_l1Next_M fu) msk_spec_l1Next_M (lp_spec_l1Next_M fu) (loops 0 body_spec_l1Next_M) := by
  have h : loops 0 body_spec_l1Next_M = [] := by kernel_rfl
  rw [h]; intro p hp; cases hp
def S_spec_l1Next_M (fu : Nat) (xs : List (D RT den)) (ins : List (Ob RT den)) : Option (OutX RT den) := match xs, ins with | [.ref 0 0, .int .i64 a1_0], [.box true [.rs za1000_0 .u8 na1000_0 fa1000_0, .int .i64 a1001_0]] => some ⟨Int × (Sl Int) × Int, F_spec_l1Next_M fu a1_0 (⟨za1000_0, na1000_0, fa1000_0⟩ : (Sl Int)) a1001_0, enc_spec_l1Next_M⟩ | _, _ => none
theorem hpc_spec_l1Next_M (fu : Nat) : ∀ f xs o, pcf_spec_l1Next_M fu f xs = some o → ∀ y, o.x = some y → Good E Try.prog f xs (o.g y) := by
  intro f xs o h
  cases h
theorem hpx_spec_l1Next_M (fu : Nat) : ∀ f xs ins o, pcx_spec_l1Next_M fu f xs ins = some o → ∀ y, o.x = some y → GoodX E Try.prog f xs ins (o.g y).1 (o.g y).2 := by
  intro f xs ins o h
  cases h
theorem goodv_spec_l1Next_M (fu : Nat) (n_1 : Int) (b0_1 : (Sl Int)) (b0_2 : Int) (y : Int × (Sl Int) × Int) (hy : F_spec_l1Next_M fu n_1 b0_1 b0_2 = some y) : GoodX E Try.prog 32 [(.ref 0 0), (.int .i64 n_1)] [(.box true [(.rs b0_1.z .u8 b0_1.n b0_1.f), (.int .i64 b0_2)])] (enc_spec_l1Next_M y).1 (enc_spec_l1Next_M y).2 :=
  funM_good (ke := false) E_ok (pc_good (pc := pc_spec_l1Next_M fu) (hpc_spec_l1Next_M fu) (hpx_spec_l1Next_M fu)) (fn := Try.f32) (c := body_spec_l1Next_M) (out := out_spec_l1Next_M) (y := y) (by kernel_rfl) (by kernel_rfl) (by kernel_rfl) (lpok_spec_l1Next_M fu) (by kernel_rfl) (Nat.le_of_ble_eq_true (by kernel_rfl)) (fun d os hd => out_spec_l1Next_M_enc d os _ hd) ((ev_spec_l1Next_M fu n_1 b0_1 b0_2).trans hy)
theorem good_spec_l1Next_M (fu : Nat) : ∀ xs ins o, S_spec_l1Next_M fu xs ins = some o → ∀ y, o.x = some y → GoodX E Try.prog 32 xs ins (o.g y).1 (o.g y).2 := by
  intro xs ins o h y hy
  unfold S_spec_l1Next_M at h
  split at h
  · rename_i a1_0 za1000_0 na1000_0 fa1000_0 a1001_0
    cases h
    exact goodv_spec_l1Next_M fu a1_0 (⟨za1000_0, na1000_0, fa1000_0⟩ : (Sl Int)) a1001_0 y hy
  · cases h

/-! spec.l1Pick -/
def F_spec_l1Pick_M (fu : Nat) (list_1 : (Sl Int)) (b0_1 : (Sl Int)) (b0_2 : Int) : Option (Int × (Sl Int) × Int) :=
  ((F_spec_l1Next_M fu ((list_1.n : Nat) : Int) b0_1 b0_2).bind fun y379 => ((bif (decide (0 ≤ y379.1) && decide ((Int.toNat y379.1) < list_1.n)) then some () else none : Option Unit).bind fun _ =>
    (some ((list_1.f (Int.toNat y379.1)), y379.2.1, y379.2.2))))
def pcf_spec_l1Pick_M (fu : Nat) (f : Nat) (xs : List (D RT den)) : Option (Out RT den) := none
def pcx_spec_l1Pick_M (fu : Nat) (f : Nat) (xs : List (D RT den)) (ins : List (Ob RT den)) : Option (OutX RT den) := match f with | 32 => S_spec_l1Next_M fu xs ins | _ => none
def pc_spec_l1Pick_M (fu : Nat) : Pc RT den := ⟨pcf_spec_l1Pick_M fu, fun f => match f with | 32 => true | _ => false, fun f => match f with | 32 => true | _ => false, pcx_spec_l1Pick_M fu⟩
def msk_spec_l1Pick_M (b : Nat) : List Nat := []
def lp_spec_l1Pick_M (fu : Nat) : Lp RT den (Int × (Sl Int) × Int) := fun b s k => none
def pso_spec_l1Pick_M : List (Pat RT) := [.flat (.int .i64)]
def oso_spec_l1Pick_M : List (OP RT) := [.box true [(.rs .u8), (.int .i64)]]
def conv_spec_l1Pick_M (r : Raw den pso_spec_l1Pick_M oso_spec_l1Pick_M) : Int × (Sl Int) × Int := (r.1.1, r.2.1.1, r.2.1.2.1)
def enc_spec_l1Pick_M (y : Int × (Sl Int) × Int) : D RT den × List (Ob RT den) := ((.int .i64 y.1), [(.box true [(.rs y.2.1.z .u8 y.2.1.n y.2.1.f), (.int .i64 y.2.2)])])
def out_spec_l1Pick_M (d : D RT den) (os : List (Ob RT den)) : Option (Int × (Sl Int) × Int) := (unSt pso_spec_l1Pick_M oso_spec_l1Pick_M ⟨[d], os⟩).bind fun v => some (conv_spec_l1Pick_M v.1)
theorem out_spec_l1Pick_M_enc (d : D RT den) (os : List (Ob RT den)) (y : Int × (Sl Int) × Int) (h : out_spec_l1Pick_M d os = some y) : d = (enc_spec_l1Pick_M y).1 ∧ os = (enc_spec_l1Pick_M y).2 :=
  outM (conv := conv_spec_l1Pick_M) (enc := enc_spec_l1Pick_M) (fun raw => by kernel_rfl) h
theorem ev_spec_l1Pick_M (fu : Nat) (list_1 : (Sl Int)) (b0_1 : (Sl Int)) (b0_2 : Int) : evFunM E false (pc_spec_l1Pick_M fu) msk_spec_l1Pick_M (lp_spec_l1Pick_M fu) out_spec_l1Pick_M 44 [(.ref 0 0), (.rs list_1.z .i64 list_1.n list_1.f)] [(.box true [(.rs b0_1.z .u8 b0_1.n b0_1.f), (.int .i64 b0_2)])] = F_spec_l1Pick_M fu list_1 b0_1 b0_2 := by kernel_rfl
noncomputable def body_spec_l1Pick_M : Code := Try.f44.body.getD .skip
theorem lpok_spec_l1Pick_M (fu : Nat) : LpOk E (pc_spec_l1Pick_M fu) msk_spec_l1Pick_M (lp_spec_l1Pick_M fu) (loops 0 body_spec_l1Pick_M) := by
  have h : loops 0 body_spec_l1Pick_M = [] := by kernel_rfl
  rw [h]; intro p hp; cases hp
def S_spec_l1Pick_M (fu : Nat) (xs : List (D RT den)) (ins : List (Ob RT den)) : Option (OutX RT den) := match xs, ins with | [.ref 0 0, .rs za1_0 .i64 na1_0 fa1_0], [.box true [.rs za1000_0 .u8 na1000_0 fa1000_0, .int .i64 a1001_0]] => some ⟨Int × (Sl Int) × Int, F_spec_l1Pick_M fu (⟨za1_0, na1_0, fa1_0⟩ : (Sl Int)) (⟨za1000_0, na1000_0, fa1000_0⟩ : (Sl Int)) a1001_0, enc_spec_l1Pick_M⟩ | _, _ => none
theorem hpc_spec_l1Pick_M (fu : Nat) : ∀ f xs o, pcf_spec_l1Pick_M fu f xs = some o → ∀ y, o.x = some y → Good E Try.prog f xs (o.g y) := by
  intro f xs o h
  cases h
theorem hpx_spec_l1Pick_M (fu : Nat) : ∀ f xs ins o, pcx_spec_l1Pick_M fu f xs ins = some o → ∀ y, o.x = some y → GoodX E Try.prog f xs ins (o.g y).1 (o.g y).2 := by
  intro f xs ins o h
  unfold pcx_spec_l1Pick_M at h
  split at h
  · exact good_spec_l1Next_M fu xs ins o h
  · cases h
theorem goodv_spec_l1Pick_M (fu : Nat) (list_1 : (Sl Int)) (b0_1 : (Sl Int)) (b0_2 : Int) (y : Int × (Sl Int) × Int) (hy : F_spec_l1Pick_M fu list_1 b0_1 b0_2 = some y) : GoodX E Try.prog 44 [(.ref 0 0), (.rs list_1.z .i64 list_1.n list_1.f)] [(.box true [(.rs b0_1.z .u8 b0_1.n b0_1.f), (.int .i64 b0_2)])] (enc_spec_l1Pick_M y).1 (enc_spec_l1Pick_M y).2 :=
  funM_good (ke := false) E_ok (pc_good (pc := pc_spec_l1Pick_M fu) (hpc_spec_l1Pick_M fu) (hpx_spec_l1Pick_M fu)) (fn := Try.f44) (c := body_spec_l1Pick_M) (out := out_spec_l1Pick_M) (y := y) (by kernel_rfl) (by kernel_rfl) (by kernel_rfl) (lpok_spec_l1Pick_M fu) (by kernel_rfl) (Nat.le_of_ble_eq_true (by kernel_rfl)) (fun d os hd => out_spec_l1Pick_M_enc d os _ hd) ((ev_spec_l1Pick_M fu list_1 b0_1 b0_2).trans hy)
theorem good_spec_l1Pick_M (fu : Nat) : ∀ xs ins o, S_spec_l1Pick_M fu xs ins = some o → ∀ y, o.x = some y → GoodX E Try.prog 44 xs ins (o.g y).1 (o.g y).2 := by
  intro xs ins o h y hy
  unfold S_spec_l1Pick_M at h
  split at h
  · rename_i za1_0 na1_0 fa1_0 za1000_0 na1000_0 fa1000_0 a1001_0
    cases h
    exact goodv_spec_l1Pick_M fu (⟨za1_0, na1_0, fa1_0⟩ : (Sl Int)) (⟨za1000_0, na1000_0, fa1000_0⟩ : (Sl Int)) a1001_0 y hy
  · cases h

/-! spec.l1Chance -/
def F_spec_l1Chance_M (fu : Nat) (n_1 : Int) (b0_1 : (Sl Int)) (b0_2 : Int) : Option (Bool × (Sl Int) × Int) :=
  ((F_spec_l1Next_M fu n_1 b0_1 b0_2).bind fun y381 => (some ((y381.1 == 0), y381.2.1, y381.2.2)))
def pcf_spec_l1Chance_M (fu : Nat) (f : Nat) (xs : List (D RT den)) : Option (Out RT den) := none
def pcx_spec_l1Chance_M (fu : Nat) (f : Nat) (xs : List (D RT den)) (ins : List (Ob RT den)) : Option (OutX RT den) := match f with | 32 => S_spec_l1Next_M fu xs ins | _ => none
def pc_spec_l1Chance_M (fu : Nat) : Pc RT den := ⟨pcf_spec_l1Chance_M fu, fun f => match f with | 32 => true | _ => false, fun f => match f with | 32 => true | _ => false, pcx_spec_l1Chance_M fu⟩
def msk_spec_l1Chance_M (b : Nat) : List Nat := []
def lp_spec_l1Chance_M (fu : Nat) : Lp RT den (Bool × (Sl Int) × Int) := fun b s k => none
def pso_spec_l1Chance_M : List (Pat RT) := [.flat .bool]
def oso_spec_l1Chance_M : List (OP RT) := [.box true [(.rs .u8), (.int .i64)]]
def conv_spec_l1Chance_M (r : Raw den pso_spec_l1Chance_M oso_spec_l1Chance_M) : Bool × (Sl Int) × Int := (r.1.1, r.2.1.1, r.2.1.2.1)
def enc_spec_l1Chance_M (y : Bool × (Sl Int) × Int) : D RT den × List (Ob RT den) := ((.bool y.1), [(.box true [(.rs y.2.1.z .u8 y.2.1.n y.2.1.f), (.int .i64 y.2.2)])])
def out_spec_l1Chance_M (d : D RT den) (os : List (Ob RT den)) : Option (Bool × (Sl Int) × Int) := (unSt pso_spec_l1Chance_M oso_spec_l1Chance_M ⟨[d], os⟩).bind fun v => some (conv_spec_l1Chance_M v.1)
theorem out_spec_l1Chance_M_enc (d : D RT den) (os : List (Ob RT den)) (y : Bool × (Sl Int) × Int) (h : out_spec_l1Chance_M d os = some y) : d = (enc_spec_l1Chance_M y).1 ∧ os = (enc_spec_l1Chance_M y).2 :=
  outM (conv := conv_spec_l1Chance_M) (enc := enc_spec_l1Chance_M) (fun raw => by kernel_rfl) h
theorem ev_spec_l1Chance_M (fu : Nat) (n_1 : Int) (b0_1 : (Sl Int)) (b0_2 : Int) : evFunM E false (pc_spec_l1Chance_M fu) msk_spec_l1Chance_M (lp_spec_l1Chance_M fu) out_spec_l1Chance_M 22 [(.ref 0 0), (.int .i64 n_1)] [(.box true [(.rs b0_1.z .u8 b0_1.n b0_1.f), (.int .i64 b0_2)])] = F_spec_l1Chance_M fu n_1 b0_1 b0_2 := by kernel_rfl
noncomputable def body_spec_l1Chance_M : Code := Try.f22.body.getD .skip
theorem lpok_spec_l1Chance_M (fu : Nat) : LpOk E (pc_spec_l1Chance_M fu) msk_spec_l1Chance_M (lp_spec_l1Chance_M fu) (loops 0 body_spec_l1Chance_M) := by
  have h : loops 0 body_spec_l1Chance_M = [] := by kernel_rfl
  rw [h]; intro p hp; cases hp
def S_spec_l1Chance_M (fu : Nat) (xs : List (D RT den)) (ins : List (Ob RT den)) : Option (OutX RT den) := match xs, ins with | [.ref 0 0, .int .i64 a1_0], [.box true [.rs za1000_0 .u8 na1000_0 fa1000_0, .int .i64 a1001_0]] => some ⟨Bool × (Sl Int) × Int, F_spec_l1Chance_M fu a1_0 (⟨za1000_0, na1000_0, fa1000_0⟩ : (Sl Int)) a1001_0, enc_spec_l1Chance_M⟩ | _, _ => none
theorem hpc_spec_l1Chance_M (fu : Nat) : ∀ f xs o, pcf_spec_l1Chance_M fu f xs = some o → ∀ y, o.x = some y → Good E Try.prog f xs (o.g y) := by
  intro f xs o h
  cases h
theorem hpx_spec_l1Chance_M (fu : Nat) : ∀ f xs ins o, pcx_spec_l1Chance_M fu f xs ins = some o → ∀ y, o.x = some y → GoodX E Try.prog f xs ins (o.g y).1 (o.g y).2 := by
  intro f xs ins o h
  unfold pcx_spec_l1Chance_M at h
  split at h
  · exact good_spec_l1Next_M fu xs ins o h
  · cases h
theorem goodv_spec_l1Chance_M (fu : Nat) (n_1 : Int) (b0_1 : (Sl Int)) (b0_2 : Int) (y : Bool × (Sl Int) × Int) (hy : F_spec_l1Chance_M fu n_1 b0_1 b0_2 = some y) : GoodX E Try.prog 22 [(.ref 0 0), (.int .i64 n_1)] [(.box true [(.rs b0_1.z .u8 b0_1.n b0_1.f), (.int .i64 b0_2)])] (enc_spec_l1Chance_M y).1 (enc_spec_l1Chance_M y).2 :=
  funM_good (ke := false) E_ok (pc_good (pc := pc_spec_l1Chance_M fu) (hpc_spec_l1Chance_M fu) (hpx_spec_l1Chance_M fu)) (fn := Try.f22) (c := body_spec_l1Chance_M) (out := out_spec_l1Chance_M) (y := y) (by kernel_rfl) (by kernel_rfl) (by kernel_rfl) (lpok_spec_l1Chance_M fu) (by kernel_rfl) (Nat.le_of_ble_eq_true (by kernel_rfl)) (fun d os hd => out_spec_l1Chance_M_enc d os _ hd) ((ev_spec_l1Chance_M fu n_1 b0_1 b0_2).trans hy)
theorem good_spec_l1Chance_M (fu : Nat) : ∀ xs ins o, S_spec_l1Chance_M fu xs ins = some o → ∀ y, o.x = some y → GoodX E Try.prog 22 xs ins (o.g y).1 (o.g y).2 := by
  intro xs ins o h y hy
  unfold S_spec_l1Chance_M at h
  split at h
  · rename_i a1_0 za1000_0 na1000_0 fa1000_0 a1001_0
    cases h
    exact goodv_spec_l1Chance_M fu a1_0 (⟨za1000_0, na1000_0, fa1000_0⟩ : (Sl Int)) a1001_0 y hy
  · cases h
end Go.Proofs.Ytokpamekcpbkaaa.Pc
