/- The functions' evaluated forms, each a proved summary. Conditions: none. -/
import Derived.Test.YtgdlionhnifajaaPcF1
namespace Go.Proofs.Ytgdlionhnifajaa.Pc
open Go Go.RowKit Go.Proofs Vm
set_option linter.unusedVariables false
set_option linter.unusedSimpArgs false
set_option maxRecDepth 100000
/-! slices.ContainsFunc[[]int64,int64] -/
def F_slices_ContainsFunc_int64_int64_w_impl_NodeFault_c2 (fu : Nat) (s_0 : (Sl Int)) (f_1_1 : Int) : Option (Bool) :=
  ((F_slices_IndexFunc_int64_int64_w_impl_NodeFault_c2 fu s_0 f_1_1).bind fun y187 => (some (decide (y187 ≥ 0))))
def pc_slices_ContainsFunc_int64_int64_w_impl_NodeFault_c2 (fu : Nat) : Pc RT den := fun f xs => match f with | 87 => S_slices_IndexFunc_int64_int64_w_impl_NodeFault_c2 fu xs | _ => none
def msk_slices_ContainsFunc_int64_int64_w_impl_NodeFault_c2 (b : Nat) : List Nat := []
def lp_slices_ContainsFunc_int64_int64_w_impl_NodeFault_c2 (fu : Nat) : Lp RT den (Bool) := fun b s k => none
theorem ev_slices_ContainsFunc_int64_int64_w_impl_NodeFault_c2 (fu : Nat) (s_0 : (Sl Int)) (f_1_1 : Int) : evFun E (pc_slices_ContainsFunc_int64_int64_w_impl_NodeFault_c2 fu) msk_slices_ContainsFunc_int64_int64_w_impl_NodeFault_c2 (lp_slices_ContainsFunc_int64_int64_w_impl_NodeFault_c2 fu) out_b 73 [(.rs s_0.z .i64 s_0.n s_0.f), (.fn 75 [(.rptr [(.int .i64 f_1_1)])])] = F_slices_ContainsFunc_int64_int64_w_impl_NodeFault_c2 fu s_0 f_1_1 := by kernel_rfl
noncomputable def body_slices_ContainsFunc_int64_int64_w_impl_NodeFault_c2 : Code := Try.f73.body.getD .skip
theorem lpok_slices_ContainsFunc_int64_int64_w_impl_NodeFault_c2 (fu : Nat) : LpOk E (pc_slices_ContainsFunc_int64_int64_w_impl_NodeFault_c2 fu) msk_slices_ContainsFunc_int64_int64_w_impl_NodeFault_c2 (lp_slices_ContainsFunc_int64_int64_w_impl_NodeFault_c2 fu) (loops 0 body_slices_ContainsFunc_int64_int64_w_impl_NodeFault_c2) := by
  have h : loops 0 body_slices_ContainsFunc_int64_int64_w_impl_NodeFault_c2 = [] := by kernel_rfl
  rw [h]; intro p hp; cases hp
def S_slices_ContainsFunc_int64_int64_w_impl_NodeFault_c2 (fu : Nat) (xs : List (D RT den)) : Option (Out RT den) := match xs with | [.rs za0_0 .i64 na0_0 fa0_0, .fn 75 [.rptr [.int .i64 a1_0]]] => some ⟨Bool, F_slices_ContainsFunc_int64_int64_w_impl_NodeFault_c2 fu (⟨za0_0, na0_0, fa0_0⟩ : (Sl Int)) a1_0, enc_b, fun _ => true⟩ | _ => none
theorem hpc_slices_ContainsFunc_int64_int64_w_impl_NodeFault_c2 (fu : Nat) : ∀ f xs o, pc_slices_ContainsFunc_int64_int64_w_impl_NodeFault_c2 fu f xs = some o → ∀ y, o.x = some y → Good E Try.prog f xs (o.g y) := by
  intro f xs o h
  unfold pc_slices_ContainsFunc_int64_int64_w_impl_NodeFault_c2 at h
  split at h
  · exact good_slices_IndexFunc_int64_int64_w_impl_NodeFault_c2 fu xs o h
  · cases h
theorem goodv_slices_ContainsFunc_int64_int64_w_impl_NodeFault_c2 (fu : Nat) (s_0 : (Sl Int)) (f_1_1 : Int) (y : Bool) (hy : F_slices_ContainsFunc_int64_int64_w_impl_NodeFault_c2 fu s_0 f_1_1 = some y) : Good E Try.prog 73 [(.rs s_0.z .i64 s_0.n s_0.f), (.fn 75 [(.rptr [(.int .i64 f_1_1)])])] (enc_b y) :=
  fun_good E_ok (pc_good (hpc_slices_ContainsFunc_int64_int64_w_impl_NodeFault_c2 fu)) (fn := Try.f73) (c := body_slices_ContainsFunc_int64_int64_w_impl_NodeFault_c2) (out := out_b) (y := y) (by kernel_rfl) (by kernel_rfl) (by kernel_rfl) (lpok_slices_ContainsFunc_int64_int64_w_impl_NodeFault_c2 fu) (fun d hd => out_b_enc d _ hd) ((ev_slices_ContainsFunc_int64_int64_w_impl_NodeFault_c2 fu s_0 f_1_1).trans hy)
theorem good_slices_ContainsFunc_int64_int64_w_impl_NodeFault_c2 (fu : Nat) : ∀ xs o, S_slices_ContainsFunc_int64_int64_w_impl_NodeFault_c2 fu xs = some o → ∀ y, o.x = some y → Good E Try.prog 73 xs (o.g y) := by
  intro xs o h y hy
  unfold S_slices_ContainsFunc_int64_int64_w_impl_NodeFault_c2 at h
  split at h
  · rename_i za0_0 na0_0 fa0_0 a1_0
    cases h
    exact goodv_slices_ContainsFunc_int64_int64_w_impl_NodeFault_c2 fu (⟨za0_0, na0_0, fa0_0⟩ : (Sl Int)) a1_0 y hy
  · cases h

/-! impl.NodeFault -/
def F_impl_NodeFault_B1 {ρ : Type} (fu : Nat) (t75_0 : (Sl Int)) (t76_1 : Int) (o0_3 : Int) (o0_4 : Int) (o0_5 : Int) (o0_6 : Int) (o0_7 : (Sl S_impl_Entry)) (o0_8 : Int) (o0_9 : Int) (o0_10 : (Sl Int)) (o0_11 : (Sl Int)) (o0_12 : (Sl Int)) (o1_13 : Int) (k0 : Option ρ) (k1 : Option ρ) (t77_2 : Int) (go : Int → Option ρ) : Option ρ :=
  (bif (decide (t77_2 < t76_1)) then ((bif (decide (0 ≤ t77_2) && decide ((Int.toNat t77_2) < t75_0.n)) then some () else none : Option Unit).bind fun _ => ((((F_impl_Node_isId fu (⟨o0_3,
    o0_4, o0_5, o0_6, o0_7, o0_8, o0_9, o0_10, o0_11, o0_12⟩ : S_impl_Node) (t75_0.f (Int.toNat t77_2))).bind fun y110 => (bif (!y110) then (some true) else (bif (decide (t77_2 > 0)) then
    ((bif (decide (0 ≤ (IntKind.wrap .i64 (t77_2 - 1))) && decide ((Int.toNat (IntKind.wrap .i64 (t77_2 - 1))) < o0_10.n)) then some () else none : Option Unit).bind fun _ => (some (decide ((t75_0.f (Int.toNat t77_2)) ≤ (o0_10.f (Int.toNat (IntKind.wrap .i64 (t77_2 - 1)))))))) else
    (some false)))) : Option Bool).bind fun m111 => (bif m111 then k0 else (go (IntKind.wrap .i64 (t77_2 + 1)))))) else k1)
def F_impl_NodeFault (fu : Nat) (t_0 : S_impl_Node) : Option (Int) :=
  ((((F_impl_in fu t_0.Peers 1 5).bind fun y98 => (bif (!y98) then (some true) else ((F_impl_Node_isId fu t_0 t_0.Id).bind fun y99 => (bif (!y99) then (some true) else ((F_impl_in fu t_0.Term 0 100000).bind fun y100 =>
    (bif (!y100) then (some true) else (bif (t_0.Voted != (-1)) then ((F_impl_Node_isId fu t_0 t_0.Voted).bind fun y101 => (bif (!y101) then (some true) else ((F_impl_in fu t_0.Role 0 2).bind fun y102 =>
    (some (!y102))))) else ((F_impl_in fu t_0.Role 0 2).bind fun y103 => (some (!y103)))))))))) : Option Bool).bind fun m104 => (bif m104 then (some 3) else ((F_impl_LogFault fu t_0.Log).bind fun y105 =>
    (bif (y105 != 0) then (some y105) else ((F_impl_size_impl_Entry fu t_0.Log).bind fun y106 => ((F_impl_last fu t_0.Log).bind fun y107 => (bif (decide (y107.Term > t_0.Term)) then
    (some 1) else ((F_impl_in fu t_0.Commit 0 y106).bind fun y108 => (bif (!y108) then (some 3) else (((bif (decide (((t_0.Votes.n : Nat) : Int) > 0)) then (some (t_0.Role != 1)) else
    (some false)) : Option Bool).bind fun m109 => (bif m109 then (some 1) else (L (fun w1 go1 => F_impl_NodeFault_B1 fu t_0.Votes ((t_0.Votes.n : Nat) : Int) t_0.Id t_0.Peers t_0.Term t_0.Voted t_0.Log t_0.Role t_0.Commit t_0.Votes t_0.Next t_0.Match y106 (some 1) (bif (t_0.Role == 2) then
    ((((F_impl_size_int64 fu t_0.Next).bind fun y112 => (bif (y112 != t_0.Peers) then (some true) else ((F_impl_size_int64 fu t_0.Match).bind fun y113 => (some (y113 != t_0.Peers))))) : Option Bool).bind fun m114 =>
    (bif m114 then (some 1) else ((F_slices_ContainsFunc_int64_int64_w_impl_NodeFault_c1 fu t_0.Next y106).bind fun y115 => (bif y115 then (some 3) else
    ((F_slices_ContainsFunc_int64_int64_w_impl_NodeFault_c2 fu t_0.Match y106).bind fun y116 => (bif y116 then (some 3) else (((bif (t_0.Role != 0) then (bif (t_0.Voted != t_0.Id) then
    (some true) else (some (t_0.Term == 0))) else (some false)) : Option Bool).bind fun m117 => (bif m117 then (some 1) else (some 0))))))))) else ((((F_impl_size_int64 fu t_0.Next).bind fun y118 =>
    (bif (y118 != 0) then (some true) else ((F_impl_size_int64 fu t_0.Match).bind fun y119 => (some (y119 != 0))))) : Option Bool).bind fun m120 => (bif m120 then (some 1) else
    ((F_slices_ContainsFunc_int64_int64_w_impl_NodeFault_c1 fu t_0.Next y106).bind fun y121 => (bif y121 then (some 3) else ((F_slices_ContainsFunc_int64_int64_w_impl_NodeFault_c2 fu t_0.Match y106).bind fun y122 =>
    (bif y122 then (some 3) else (((bif (t_0.Role != 0) then (bif (t_0.Voted != t_0.Id) then (some true) else (some (t_0.Term == 0))) else (some false)) : Option Bool).bind fun m123 =>
    (bif m123 then (some 1) else (some 0)))))))))) w1 go1) fu (0 : Int)))))))))))))
def pc_impl_NodeFault (fu : Nat) : Pc RT den := fun f xs => match f with | 40 => S_impl_in fu xs | 41 => S_impl_Node_isId fu xs | 42 => S_impl_LogFault fu xs | 43 => S_impl_last fu xs | 71 => S_impl_size_impl_Entry fu xs | 72 => S_impl_size_int64 fu xs | 73 => (match S_slices_ContainsFunc_int64_int64_w_impl_NodeFault_c1 fu xs with | some o => some o | none => S_slices_ContainsFunc_int64_int64_w_impl_NodeFault_c2 fu xs) | _ => none
def msk_impl_NodeFault (b : Nat) : List Nat := match b with | 1 => [0, 2, 3, 5, 6, 7, 8, 9, 10, 11, 12, 13, 14, 15, 16, 17, 18, 19, 20, 21, 22, 23, 24, 25, 26, 27, 28, 29, 30, 31, 32, 33, 34, 35, 36, 37, 38, 39, 40, 41, 42, 43, 44, 45, 46, 47, 48, 49, 50, 51, 52, 53, 54, 55, 56, 57, 58, 59, 60, 61, 62, 63, 64, 65, 66, 67, 68, 69, 70, 71, 72, 73, 74, 78, 79, 80, 81, 82, 83, 84, 85, 86, 87, 88, 89, 90, 91, 92, 93, 94, 95, 96, 97, 98, 99, 100, 101, 102, 103, 104, 105, 106, 107, 108, 109, 110, 111, 112, 113, 114, 115, 116, 117, 118, 119, 120, 121, 122, 123, 124, 125, 126, 127, 128, 129, 130, 131, 132, 133, 134, 135, 136, 137, 138, 139, 140, 141, 142, 143] | 100001 => [0, 3, 5, 6, 7, 8, 9, 10, 11, 12, 13, 14, 15, 16, 17, 18, 19, 20, 21, 22, 23, 24, 25, 26, 27, 28, 29, 30, 31, 32, 33, 34, 35, 36, 37, 38, 39, 40, 41, 42, 43, 44, 45, 46, 47, 48, 49, 50, 51, 52, 53, 54, 55, 56, 57, 58, 59, 60, 61, 62, 63, 64, 65, 66, 67, 68, 69, 70, 71, 72, 73, 74, 75, 76, 77, 78, 79, 80, 81, 82, 83, 84, 85, 86, 87, 88, 89, 90, 91, 92, 93, 94, 95, 96, 97, 98, 99, 100, 101, 102, 103, 104, 105, 106, 107, 108, 109, 110, 111, 112, 113, 114, 115, 116, 117, 118, 119, 120, 121, 122, 123, 124, 125, 126, 127, 128, 129, 130, 131, 132, 133, 134, 135, 136, 137, 138, 139, 140, 141, 142, 143] | 200001 => [40] | 200011 => [64] | 200016 => [98] | 200022 => [105] | 200028 => [128] | _ => []
def ps_impl_NodeFault_1 : List (Pat RT) := [.flat .dead, .flat (.ref 0 0), .flat .dead, .flat .dead, .flat (.ref 1 0), .flat .dead, .flat .dead, .flat .dead, .flat .dead, .flat .dead, .flat .dead, .flat .dead, .flat .dead, .flat .dead, .flat .dead, .flat .dead, .flat .dead, .flat .dead, .flat .dead, .flat .dead, .flat .dead, .flat .dead, .flat .dead, .flat .dead, .flat .dead, .flat .dead, .flat .dead, .flat .dead, .flat .dead, .flat .dead, .flat .dead, .flat .dead, .flat .dead, .flat .dead, .flat .dead, .flat .dead, .flat .dead, .flat .dead, .flat .dead, .flat .dead, .flat .dead, .flat .dead, .flat .dead, .flat .dead, .flat .dead, .flat .dead, .flat .dead, .flat .dead, .flat .dead, .flat .dead, .flat .dead, .flat .dead, .flat .dead, .flat .dead, .flat .dead, .flat .dead, .flat .dead, .flat .dead, .flat .dead, .flat .dead, .flat .dead, .flat .dead, .flat .dead, .flat .dead, .flat .dead, .flat .dead, .flat .dead, .flat .dead, .flat .dead, .flat .dead, .flat .dead, .flat .dead, .flat .dead, .flat .dead, .flat .dead, .flat (.rs .i64), .flat (.int .i64), .flat (.int .i64), .flat .dead, .flat .dead, .flat .dead, .flat .dead, .flat .dead, .flat .dead, .flat .dead, .flat .dead, .flat .dead, .flat .dead, .flat .dead, .flat .dead, .flat .dead, .flat .dead, .flat .dead, .flat .dead, .flat .dead, .flat .dead, .flat .dead, .flat .dead, .flat .dead, .flat .dead, .flat .dead, .flat .dead, .flat .dead, .flat .dead, .flat .dead, .flat .dead, .flat .dead, .flat .dead, .flat .dead, .flat .dead, .flat .dead, .flat .dead, .flat .dead, .flat .dead, .flat .dead, .flat .dead, .flat .dead, .flat .dead, .flat .dead, .flat .dead, .flat .dead, .flat .dead, .flat .dead, .flat .dead, .flat .dead, .flat .dead, .flat .dead, .flat .dead, .flat .dead, .flat .dead, .flat .dead, .flat .dead, .flat .dead, .flat .dead, .flat .dead, .flat .dead, .flat .dead, .flat .dead, .flat .dead, .flat .dead, .flat .dead, .flat .dead, .flat .dead, .flat .dead]
def os_impl_NodeFault_1 : List (OP RT) := [.box [(.int .i64), (.int .i64), (.int .i64), (.int .i64), (.rs .impl_Entry), (.int .i64), (.int .i64), (.rs .i64), (.rs .i64), (.rs .i64)], .box [(.int .i64)]]
def conv_impl_NodeFault_1 (r : Raw den ps_impl_NodeFault_1 os_impl_NodeFault_1) : ((Sl Int) × Int × Int × Int × Int × Int × (Sl S_impl_Entry) × Int × Int × (Sl Int) × (Sl Int) × (Sl Int) × Int) × (Int) := ((r.1.2.2.2.2.2.2.2.2.2.2.2.2.2.2.2.2.2.2.2.2.2.2.2.2.2.2.2.2.2.2.2.2.2.2.2.2.2.2.2.2.2.2.2.2.2.2.2.2.2.2.2.2.2.2.2.2.2.2.2.2.2.2.2.2.2.2.2.2.2.2.2.2.2.2.2.1, r.1.2.2.2.2.2.2.2.2.2.2.2.2.2.2.2.2.2.2.2.2.2.2.2.2.2.2.2.2.2.2.2.2.2.2.2.2.2.2.2.2.2.2.2.2.2.2.2.2.2.2.2.2.2.2.2.2.2.2.2.2.2.2.2.2.2.2.2.2.2.2.2.2.2.2.2.2.1, r.2.1.1, r.2.1.2.1, r.2.1.2.2.1, r.2.1.2.2.2.1, r.2.1.2.2.2.2.1, r.2.1.2.2.2.2.2.1, r.2.1.2.2.2.2.2.2.1, r.2.1.2.2.2.2.2.2.2.1, r.2.1.2.2.2.2.2.2.2.2.1, r.2.1.2.2.2.2.2.2.2.2.2.1, r.2.2.1.1), r.1.2.2.2.2.2.2.2.2.2.2.2.2.2.2.2.2.2.2.2.2.2.2.2.2.2.2.2.2.2.2.2.2.2.2.2.2.2.2.2.2.2.2.2.2.2.2.2.2.2.2.2.2.2.2.2.2.2.2.2.2.2.2.2.2.2.2.2.2.2.2.2.2.2.2.2.2.2.1)
def back_impl_NodeFault_1 (c : (Sl Int) × Int × Int × Int × Int × Int × (Sl S_impl_Entry) × Int × Int × (Sl Int) × (Sl Int) × (Sl Int) × Int) (w : Int) : St RT den := ⟨[.dead, (.ref 0 0), .dead, .dead, (.ref 1 0), .dead, .dead, .dead, .dead, .dead, .dead, .dead, .dead, .dead, .dead, .dead, .dead, .dead, .dead, .dead, .dead, .dead, .dead, .dead, .dead, .dead, .dead, .dead, .dead, .dead, .dead, .dead, .dead, .dead, .dead, .dead, .dead, .dead, .dead, .dead, .dead, .dead, .dead, .dead, .dead, .dead, .dead, .dead, .dead, .dead, .dead, .dead, .dead, .dead, .dead, .dead, .dead, .dead, .dead, .dead, .dead, .dead, .dead, .dead, .dead, .dead, .dead, .dead, .dead, .dead, .dead, .dead, .dead, .dead, .dead, (.rs c.1.z .i64 c.1.n c.1.f), (.int .i64 c.2.1), (.int .i64 w), .dead, .dead, .dead, .dead, .dead, .dead, .dead, .dead, .dead, .dead, .dead, .dead, .dead, .dead, .dead, .dead, .dead, .dead, .dead, .dead, .dead, .dead, .dead, .dead, .dead, .dead, .dead, .dead, .dead, .dead, .dead, .dead, .dead, .dead, .dead, .dead, .dead, .dead, .dead, .dead, .dead, .dead, .dead, .dead, .dead, .dead, .dead, .dead, .dead, .dead, .dead, .dead, .dead, .dead, .dead, .dead, .dead, .dead, .dead, .dead, .dead, .dead, .dead, .dead, .dead, .dead], [(.box [(.int .i64 c.2.2.1), (.int .i64 c.2.2.2.1), (.int .i64 c.2.2.2.2.1), (.int .i64 c.2.2.2.2.2.1), (.rs c.2.2.2.2.2.2.1.z .impl_Entry c.2.2.2.2.2.2.1.n c.2.2.2.2.2.2.1.f), (.int .i64 c.2.2.2.2.2.2.2.1), (.int .i64 c.2.2.2.2.2.2.2.2.1), (.rs c.2.2.2.2.2.2.2.2.2.1.z .i64 c.2.2.2.2.2.2.2.2.2.1.n c.2.2.2.2.2.2.2.2.2.1.f), (.rs c.2.2.2.2.2.2.2.2.2.2.1.z .i64 c.2.2.2.2.2.2.2.2.2.2.1.n c.2.2.2.2.2.2.2.2.2.2.1.f), (.rs c.2.2.2.2.2.2.2.2.2.2.2.1.z .i64 c.2.2.2.2.2.2.2.2.2.2.2.1.n c.2.2.2.2.2.2.2.2.2.2.2.1.f)]), (.box [(.int .i64 c.2.2.2.2.2.2.2.2.2.2.2.2)])]⟩
def Bk_impl_NodeFault_1 {ρ : Type} (fu : Nat) (c : (Sl Int) × Int × Int × Int × Int × Int × (Sl S_impl_Entry) × Int × Int × (Sl Int) × (Sl Int) × (Sl Int) × Int) (k : Ex → St RT den → Option ρ) (w : Int) (go : (Int) → Option ρ) : Option ρ := F_impl_NodeFault_B1 fu c.1 c.2.1 c.2.2.1 c.2.2.2.1 c.2.2.2.2.1 c.2.2.2.2.2.1 c.2.2.2.2.2.2.1 c.2.2.2.2.2.2.2.1 c.2.2.2.2.2.2.2.2.1 c.2.2.2.2.2.2.2.2.2.1 c.2.2.2.2.2.2.2.2.2.2.1 c.2.2.2.2.2.2.2.2.2.2.2.1 c.2.2.2.2.2.2.2.2.2.2.2.2 (k .ret ⟨[.dead, (.ref 0 0), (.int .i64 1), .dead, (.ref 1 0), .dead, .dead, .dead, .dead, .dead, .dead, .dead, .dead, .dead, .dead, .dead, .dead, .dead, .dead, .dead, .dead, .dead, .dead, .dead, .dead, .dead, .dead, .dead, .dead, .dead, .dead, .dead, .dead, .dead, .dead, .dead, .dead, .dead, .dead, .dead, .dead, .dead, .dead, .dead, .dead, .dead, .dead, .dead, .dead, .dead, .dead, .dead, .dead, .dead, .dead, .dead, .dead, .dead, .dead, .dead, .dead, .dead, .dead, .dead, .dead, .dead, .dead, .dead, .dead, .dead, .dead, .dead, .dead, .dead, .dead, .dead, .dead, .dead, .dead, .dead, .dead, .dead, .dead, .dead, .dead, .dead, .dead, .dead, .dead, .dead, .dead, .dead, .dead, .dead, .dead, .dead, .dead, .dead, .dead, .dead, .dead, .dead, .dead, .dead, .dead, .dead, .dead, .dead, .dead, .dead, .dead, .dead, .dead, .dead, .dead, .dead, .dead, .dead, .dead, .dead, .dead, .dead, .dead, .dead, .dead, .dead, .dead, .dead, .dead, .dead, .dead, .dead, .dead, .dead, .dead, .dead, .dead, .dead, .dead, .dead, .dead, .dead, .dead, .dead], [(.box [(.int .i64 c.2.2.1), (.int .i64 c.2.2.2.1), (.int .i64 c.2.2.2.2.1), (.int .i64 c.2.2.2.2.2.1), (.rs c.2.2.2.2.2.2.1.z .impl_Entry c.2.2.2.2.2.2.1.n c.2.2.2.2.2.2.1.f), (.int .i64 c.2.2.2.2.2.2.2.1), (.int .i64 c.2.2.2.2.2.2.2.2.1), (.rs c.2.2.2.2.2.2.2.2.2.1.z .i64 c.2.2.2.2.2.2.2.2.2.1.n c.2.2.2.2.2.2.2.2.2.1.f), (.rs c.2.2.2.2.2.2.2.2.2.2.1.z .i64 c.2.2.2.2.2.2.2.2.2.2.1.n c.2.2.2.2.2.2.2.2.2.2.1.f), (.rs c.2.2.2.2.2.2.2.2.2.2.2.1.z .i64 c.2.2.2.2.2.2.2.2.2.2.2.1.n c.2.2.2.2.2.2.2.2.2.2.2.1.f)]), (.box [(.int .i64 c.2.2.2.2.2.2.2.2.2.2.2.2)])]⟩) (k (.exit 1) ⟨[.dead, (.ref 0 0), .dead, .dead, (.ref 1 0), .dead, .dead, .dead, .dead, .dead, .dead, .dead, .dead, .dead, .dead, .dead, .dead, .dead, .dead, .dead, .dead, .dead, .dead, .dead, .dead, .dead, .dead, .dead, .dead, .dead, .dead, .dead, .dead, .dead, .dead, .dead, .dead, .dead, .dead, .dead, .dead, .dead, .dead, .dead, .dead, .dead, .dead, .dead, .dead, .dead, .dead, .dead, .dead, .dead, .dead, .dead, .dead, .dead, .dead, .dead, .dead, .dead, .dead, .dead, .dead, .dead, .dead, .dead, .dead, .dead, .dead, .dead, .dead, .dead, .dead, .dead, .dead, .dead, .dead, .dead, .dead, .dead, .dead, .dead, .dead, .dead, .dead, .dead, .dead, .dead, .dead, .dead, .dead, .dead, .dead, .dead, .dead, .dead, .dead, .dead, .dead, .dead, .dead, .dead, .dead, .dead, .dead, .dead, .dead, .dead, .dead, .dead, .dead, .dead, .dead, .dead, .dead, .dead, .dead, .dead, .dead, .dead, .dead, .dead, .dead, .dead, .dead, .dead, .dead, .dead, .dead, .dead, .dead, .dead, .dead, .dead, .dead, .dead, .dead, .dead, .dead, .dead, .dead, .dead], [(.box [(.int .i64 c.2.2.1), (.int .i64 c.2.2.2.1), (.int .i64 c.2.2.2.2.1), (.int .i64 c.2.2.2.2.2.1), (.rs c.2.2.2.2.2.2.1.z .impl_Entry c.2.2.2.2.2.2.1.n c.2.2.2.2.2.2.1.f), (.int .i64 c.2.2.2.2.2.2.2.1), (.int .i64 c.2.2.2.2.2.2.2.2.1), (.rs c.2.2.2.2.2.2.2.2.2.1.z .i64 c.2.2.2.2.2.2.2.2.2.1.n c.2.2.2.2.2.2.2.2.2.1.f), (.rs c.2.2.2.2.2.2.2.2.2.2.1.z .i64 c.2.2.2.2.2.2.2.2.2.2.1.n c.2.2.2.2.2.2.2.2.2.2.1.f), (.rs c.2.2.2.2.2.2.2.2.2.2.2.1.z .i64 c.2.2.2.2.2.2.2.2.2.2.2.1.n c.2.2.2.2.2.2.2.2.2.2.2.1.f)]), (.box [(.int .i64 c.2.2.2.2.2.2.2.2.2.2.2.2)])]⟩) w go
def lp_impl_NodeFault (fu : Nat) : Lp RT den (Int) := fun b s k => match b with | 1 => handle ps_impl_NodeFault_1 os_impl_NodeFault_1 conv_impl_NodeFault_1 (Bk_impl_NodeFault_1 fu) fu s k | _ => none
theorem ev_impl_NodeFault (fu : Nat) (t_0 : S_impl_Node) : evFun E (pc_impl_NodeFault fu) msk_impl_NodeFault (lp_impl_NodeFault fu) out_i64 36 [(.agg [(.int .i64 t_0.Id), (.int .i64 t_0.Peers), (.int .i64 t_0.Term), (.int .i64 t_0.Voted), (.rs t_0.Log.z .impl_Entry t_0.Log.n t_0.Log.f), (.int .i64 t_0.Role), (.int .i64 t_0.Commit), (.rs t_0.Votes.z .i64 t_0.Votes.n t_0.Votes.f), (.rs t_0.Next.z .i64 t_0.Next.n t_0.Next.f), (.rs t_0.Match.z .i64 t_0.Match.n t_0.Match.f)])] = F_impl_NodeFault fu t_0 := by kernel_rfl
noncomputable def body_impl_NodeFault : Code := Try.f36.body.getD .skip
noncomputable def lc_impl_NodeFault_1 : Code := ((loops 0 body_impl_NodeFault).getD 0 (0, .skip)).2
theorem round_impl_NodeFault_1 (fu : Nat) (it : St RT den → Option (Int)) (k : Ex → St RT den → Option (Int)) c w : evCode E (pc_impl_NodeFault fu) msk_impl_NodeFault (lp_impl_NodeFault fu) 1 lc_impl_NodeFault_1 (back_impl_NodeFault_1 c w) (after (msk_impl_NodeFault 1) (msk_impl_NodeFault 100001) 2 it k) = Bk_impl_NodeFault_1 fu c k w (fun w => it (back_impl_NodeFault_1 c w)) := by kernel_rfl
theorem lpok_impl_NodeFault_1 (fu : Nat) : ∀ s k r, lp_impl_NodeFault fu 1 s k = some r → ∃ fuel, iter (msk_impl_NodeFault 1) (msk_impl_NodeFault 100001) s.objs.length (evCode E (pc_impl_NodeFault fu) msk_impl_NodeFault (lp_impl_NodeFault fu) 1 lc_impl_NodeFault_1) fuel s k = some r :=
  handle_ok (ps := ps_impl_NodeFault_1) (os := os_impl_NodeFault_1) (conv := conv_impl_NodeFault_1) (B := Bk_impl_NodeFault_1 fu) (fu := fu) back_impl_NodeFault_1 (fun raw => by kernel_rfl) 2 (fun c w => by kernel_rfl) (round_impl_NodeFault_1 fu)
theorem lpok_impl_NodeFault (fu : Nat) : LpOk E (pc_impl_NodeFault fu) msk_impl_NodeFault (lp_impl_NodeFault fu) (loops 0 body_impl_NodeFault) := loop_all 1 (by kernel_rfl) fun i hi => match i, hi with
  | 0, _ => by
    have h : (loops 0 body_impl_NodeFault).getD 0 (0, .skip) = (1, lc_impl_NodeFault_1) := by kernel_rfl
    rw [h]; exact lpok_impl_NodeFault_1 fu
  | i + 1, hi => absurd hi (by omega)
def S_impl_NodeFault (fu : Nat) (xs : List (D RT den)) : Option (Out RT den) := match xs with | [.agg [.int .i64 a0_1, .int .i64 a0_2, .int .i64 a0_3, .int .i64 a0_4, .rs za0_5 .impl_Entry na0_5 fa0_5, .int .i64 a0_6, .int .i64 a0_7, .rs za0_8 .i64 na0_8 fa0_8, .rs za0_9 .i64 na0_9 fa0_9, .rs za0_10 .i64 na0_10 fa0_10]] => some ⟨Int, F_impl_NodeFault fu (⟨a0_1, a0_2, a0_3, a0_4, (⟨za0_5, na0_5, fa0_5⟩ : (Sl S_impl_Entry)), a0_6, a0_7, (⟨za0_8, na0_8, fa0_8⟩ : (Sl Int)), (⟨za0_9, na0_9, fa0_9⟩ : (Sl Int)), (⟨za0_10, na0_10, fa0_10⟩ : (Sl Int))⟩ : S_impl_Node), enc_i64, fun _ => true⟩ | _ => none
theorem hpc_impl_NodeFault (fu : Nat) : ∀ f xs o, pc_impl_NodeFault fu f xs = some o → ∀ y, o.x = some y → Good E Try.prog f xs (o.g y) := by
  intro f xs o h
  unfold pc_impl_NodeFault at h
  split at h
  · exact good_impl_in fu xs o h
  · exact good_impl_Node_isId fu xs o h
  · exact good_impl_LogFault fu xs o h
  · exact good_impl_last fu xs o h
  · exact good_impl_size_impl_Entry fu xs o h
  · exact good_impl_size_int64 fu xs o h
  · split at h
    · rename_i o' ho; cases h; exact good_slices_ContainsFunc_int64_int64_w_impl_NodeFault_c1 fu xs _ ho
    · exact good_slices_ContainsFunc_int64_int64_w_impl_NodeFault_c2 fu xs o h
  · cases h
theorem goodv_impl_NodeFault (fu : Nat) (t_0 : S_impl_Node) (y : Int) (hy : F_impl_NodeFault fu t_0 = some y) : Good E Try.prog 36 [(.agg [(.int .i64 t_0.Id), (.int .i64 t_0.Peers), (.int .i64 t_0.Term), (.int .i64 t_0.Voted), (.rs t_0.Log.z .impl_Entry t_0.Log.n t_0.Log.f), (.int .i64 t_0.Role), (.int .i64 t_0.Commit), (.rs t_0.Votes.z .i64 t_0.Votes.n t_0.Votes.f), (.rs t_0.Next.z .i64 t_0.Next.n t_0.Next.f), (.rs t_0.Match.z .i64 t_0.Match.n t_0.Match.f)])] (enc_i64 y) :=
  fun_good E_ok (pc_good (hpc_impl_NodeFault fu)) (fn := Try.f36) (c := body_impl_NodeFault) (out := out_i64) (y := y) (by kernel_rfl) (by kernel_rfl) (by kernel_rfl) (lpok_impl_NodeFault fu) (fun d hd => out_i64_enc d _ hd) ((ev_impl_NodeFault fu t_0).trans hy)
theorem good_impl_NodeFault (fu : Nat) : ∀ xs o, S_impl_NodeFault fu xs = some o → ∀ y, o.x = some y → Good E Try.prog 36 xs (o.g y) := by
  intro xs o h y hy
  unfold S_impl_NodeFault at h
  split at h
  · rename_i a0_1 a0_2 a0_3 a0_4 za0_5 na0_5 fa0_5 a0_6 a0_7 za0_8 na0_8 fa0_8 za0_9 na0_9 fa0_9 za0_10 na0_10 fa0_10
    cases h
    exact goodv_impl_NodeFault fu (⟨a0_1, a0_2, a0_3, a0_4, (⟨za0_5, na0_5, fa0_5⟩ : (Sl S_impl_Entry)), a0_6, a0_7, (⟨za0_8, na0_8, fa0_8⟩ : (Sl Int)), (⟨za0_9, na0_9, fa0_9⟩ : (Sl Int)), (⟨za0_10, na0_10, fa0_10⟩ : (Sl Int))⟩ : S_impl_Node) y hy
  · cases h

/-! impl.CommitOf -/
def F_impl_CommitOf (fu : Nat) (n_0 : S_impl_Node) : Option (S_impl_IntResult) :=
  ((F_impl_NodeFault fu n_0).bind fun y97 => (bif (y97 != 0) then (some (⟨y97, 0⟩ : S_impl_IntResult)) else (some (⟨0, n_0.Commit⟩ : S_impl_IntResult))))
def pc_impl_CommitOf (fu : Nat) : Pc RT den := fun f xs => match f with | 36 => S_impl_NodeFault fu xs | _ => none
def msk_impl_CommitOf (b : Nat) : List Nat := []
def lp_impl_CommitOf (fu : Nat) : Lp RT den (S_impl_IntResult) := fun b s k => none
theorem ev_impl_CommitOf (fu : Nat) (n_0 : S_impl_Node) : evFun E (pc_impl_CommitOf fu) msk_impl_CommitOf (lp_impl_CommitOf fu) out_impl_IntResult 12 [(.agg [(.int .i64 n_0.Id), (.int .i64 n_0.Peers), (.int .i64 n_0.Term), (.int .i64 n_0.Voted), (.rs n_0.Log.z .impl_Entry n_0.Log.n n_0.Log.f), (.int .i64 n_0.Role), (.int .i64 n_0.Commit), (.rs n_0.Votes.z .i64 n_0.Votes.n n_0.Votes.f), (.rs n_0.Next.z .i64 n_0.Next.n n_0.Next.f), (.rs n_0.Match.z .i64 n_0.Match.n n_0.Match.f)])] = F_impl_CommitOf fu n_0 := by kernel_rfl
noncomputable def body_impl_CommitOf : Code := Try.f12.body.getD .skip
theorem lpok_impl_CommitOf (fu : Nat) : LpOk E (pc_impl_CommitOf fu) msk_impl_CommitOf (lp_impl_CommitOf fu) (loops 0 body_impl_CommitOf) := by
  have h : loops 0 body_impl_CommitOf = [] := by kernel_rfl
  rw [h]; intro p hp; cases hp
def S_impl_CommitOf (fu : Nat) (xs : List (D RT den)) : Option (Out RT den) := match xs with | [.agg [.int .i64 a0_1, .int .i64 a0_2, .int .i64 a0_3, .int .i64 a0_4, .rs za0_5 .impl_Entry na0_5 fa0_5, .int .i64 a0_6, .int .i64 a0_7, .rs za0_8 .i64 na0_8 fa0_8, .rs za0_9 .i64 na0_9 fa0_9, .rs za0_10 .i64 na0_10 fa0_10]] => some ⟨S_impl_IntResult, F_impl_CommitOf fu (⟨a0_1, a0_2, a0_3, a0_4, (⟨za0_5, na0_5, fa0_5⟩ : (Sl S_impl_Entry)), a0_6, a0_7, (⟨za0_8, na0_8, fa0_8⟩ : (Sl Int)), (⟨za0_9, na0_9, fa0_9⟩ : (Sl Int)), (⟨za0_10, na0_10, fa0_10⟩ : (Sl Int))⟩ : S_impl_Node), enc_impl_IntResult, fun _ => true⟩ | _ => none
theorem hpc_impl_CommitOf (fu : Nat) : ∀ f xs o, pc_impl_CommitOf fu f xs = some o → ∀ y, o.x = some y → Good E Try.prog f xs (o.g y) := by
  intro f xs o h
  unfold pc_impl_CommitOf at h
  split at h
  · exact good_impl_NodeFault fu xs o h
  · cases h
theorem goodv_impl_CommitOf (fu : Nat) (n_0 : S_impl_Node) (y : S_impl_IntResult) (hy : F_impl_CommitOf fu n_0 = some y) : Good E Try.prog 12 [(.agg [(.int .i64 n_0.Id), (.int .i64 n_0.Peers), (.int .i64 n_0.Term), (.int .i64 n_0.Voted), (.rs n_0.Log.z .impl_Entry n_0.Log.n n_0.Log.f), (.int .i64 n_0.Role), (.int .i64 n_0.Commit), (.rs n_0.Votes.z .i64 n_0.Votes.n n_0.Votes.f), (.rs n_0.Next.z .i64 n_0.Next.n n_0.Next.f), (.rs n_0.Match.z .i64 n_0.Match.n n_0.Match.f)])] (enc_impl_IntResult y) :=
  fun_good E_ok (pc_good (hpc_impl_CommitOf fu)) (fn := Try.f12) (c := body_impl_CommitOf) (out := out_impl_IntResult) (y := y) (by kernel_rfl) (by kernel_rfl) (by kernel_rfl) (lpok_impl_CommitOf fu) (fun d hd => out_impl_IntResult_enc d _ hd) ((ev_impl_CommitOf fu n_0).trans hy)
theorem good_impl_CommitOf (fu : Nat) : ∀ xs o, S_impl_CommitOf fu xs = some o → ∀ y, o.x = some y → Good E Try.prog 12 xs (o.g y) := by
  intro xs o h y hy
  unfold S_impl_CommitOf at h
  split at h
  · rename_i a0_1 a0_2 a0_3 a0_4 za0_5 na0_5 fa0_5 a0_6 a0_7 za0_8 na0_8 fa0_8 za0_9 na0_9 fa0_9 za0_10 na0_10 fa0_10
    cases h
    exact goodv_impl_CommitOf fu (⟨a0_1, a0_2, a0_3, a0_4, (⟨za0_5, na0_5, fa0_5⟩ : (Sl S_impl_Entry)), a0_6, a0_7, (⟨za0_8, na0_8, fa0_8⟩ : (Sl Int)), (⟨za0_9, na0_9, fa0_9⟩ : (Sl Int)), (⟨za0_10, na0_10, fa0_10⟩ : (Sl Int))⟩ : S_impl_Node) y hy
  · cases h

/-! laws.eqIntResult -/
def F_laws_eqIntResult (fu : Nat) (a_0 : S_impl_IntResult) (b_1 : S_impl_IntResult) : Option (Bool) :=
  (bif (a_0.Code != b_1.Code) then (some false) else (bif (a_0.Value != b_1.Value) then (some false) else (some true)))
def pc_laws_eqIntResult (fu : Nat) : Pc RT den := fun f xs => none
def msk_laws_eqIntResult (b : Nat) : List Nat := []
def lp_laws_eqIntResult (fu : Nat) : Lp RT den (Bool) := fun b s k => none
theorem ev_laws_eqIntResult (fu : Nat) (a_0 : S_impl_IntResult) (b_1 : S_impl_IntResult) : evFun E (pc_laws_eqIntResult fu) msk_laws_eqIntResult (lp_laws_eqIntResult fu) out_b 13 [(.agg [(.int .i64 a_0.Code), (.int .i64 a_0.Value)]), (.agg [(.int .i64 b_1.Code), (.int .i64 b_1.Value)])] = F_laws_eqIntResult fu a_0 b_1 := by kernel_rfl
noncomputable def body_laws_eqIntResult : Code := Try.f13.body.getD .skip
theorem lpok_laws_eqIntResult (fu : Nat) : LpOk E (pc_laws_eqIntResult fu) msk_laws_eqIntResult (lp_laws_eqIntResult fu) (loops 0 body_laws_eqIntResult) := by
  have h : loops 0 body_laws_eqIntResult = [] := by kernel_rfl
  rw [h]; intro p hp; cases hp
def S_laws_eqIntResult (fu : Nat) (xs : List (D RT den)) : Option (Out RT den) := match xs with | [.agg [.int .i64 a0_1, .int .i64 a0_2], .agg [.int .i64 a1_1, .int .i64 a1_2]] => some ⟨Bool, F_laws_eqIntResult fu (⟨a0_1, a0_2⟩ : S_impl_IntResult) (⟨a1_1, a1_2⟩ : S_impl_IntResult), enc_b, fun _ => true⟩ | _ => none
theorem hpc_laws_eqIntResult (fu : Nat) : ∀ f xs o, pc_laws_eqIntResult fu f xs = some o → ∀ y, o.x = some y → Good E Try.prog f xs (o.g y) := by
  intro f xs o h
  cases h
theorem goodv_laws_eqIntResult (fu : Nat) (a_0 : S_impl_IntResult) (b_1 : S_impl_IntResult) (y : Bool) (hy : F_laws_eqIntResult fu a_0 b_1 = some y) : Good E Try.prog 13 [(.agg [(.int .i64 a_0.Code), (.int .i64 a_0.Value)]), (.agg [(.int .i64 b_1.Code), (.int .i64 b_1.Value)])] (enc_b y) :=
  fun_good E_ok (pc_good (hpc_laws_eqIntResult fu)) (fn := Try.f13) (c := body_laws_eqIntResult) (out := out_b) (y := y) (by kernel_rfl) (by kernel_rfl) (by kernel_rfl) (lpok_laws_eqIntResult fu) (fun d hd => out_b_enc d _ hd) ((ev_laws_eqIntResult fu a_0 b_1).trans hy)
theorem good_laws_eqIntResult (fu : Nat) : ∀ xs o, S_laws_eqIntResult fu xs = some o → ∀ y, o.x = some y → Good E Try.prog 13 xs (o.g y) := by
  intro xs o h y hy
  unfold S_laws_eqIntResult at h
  split at h
  · rename_i a0_1 a0_2 a1_1 a1_2
    cases h
    exact goodv_laws_eqIntResult fu (⟨a0_1, a0_2⟩ : S_impl_IntResult) (⟨a1_1, a1_2⟩ : S_impl_IntResult) y hy
  · cases h

/-! laws.eqCmd -/
def F_laws_eqCmd (fu : Nat) (a_0 : S_impl_Cmd) (b_1 : S_impl_Cmd) : Option (Bool) :=
  (bif (a_0.Kind != b_1.Kind) then (some false) else (bif (a_0.Expect != b_1.Expect) then (some false) else (bif (a_0.Name != b_1.Name) then (some false) else (bif (a_0.Addr != b_1.Addr) then
    (some false) else (bif (a_0.Number != b_1.Number) then (some false) else (bif (a_0.Proto != b_1.Proto) then (some false) else (some true)))))))
def pc_laws_eqCmd (fu : Nat) : Pc RT den := fun f xs => none
def msk_laws_eqCmd (b : Nat) : List Nat := []
def lp_laws_eqCmd (fu : Nat) : Lp RT den (Bool) := fun b s k => none
theorem ev_laws_eqCmd (fu : Nat) (a_0 : S_impl_Cmd) (b_1 : S_impl_Cmd) : evFun E (pc_laws_eqCmd fu) msk_laws_eqCmd (lp_laws_eqCmd fu) out_b 88 [(.agg [(.int .i64 a_0.Kind), (.int .i64 a_0.Expect), (.int .i64 a_0.Name), (.int .i64 a_0.Addr), (.int .i64 a_0.Number), (.int .i64 a_0.Proto)]), (.agg [(.int .i64 b_1.Kind), (.int .i64 b_1.Expect), (.int .i64 b_1.Name), (.int .i64 b_1.Addr), (.int .i64 b_1.Number), (.int .i64 b_1.Proto)])] = F_laws_eqCmd fu a_0 b_1 := by kernel_rfl
noncomputable def body_laws_eqCmd : Code := Try.f88.body.getD .skip
theorem lpok_laws_eqCmd (fu : Nat) : LpOk E (pc_laws_eqCmd fu) msk_laws_eqCmd (lp_laws_eqCmd fu) (loops 0 body_laws_eqCmd) := by
  have h : loops 0 body_laws_eqCmd = [] := by kernel_rfl
  rw [h]; intro p hp; cases hp
def S_laws_eqCmd (fu : Nat) (xs : List (D RT den)) : Option (Out RT den) := match xs with | [.agg [.int .i64 a0_1, .int .i64 a0_2, .int .i64 a0_3, .int .i64 a0_4, .int .i64 a0_5, .int .i64 a0_6], .agg [.int .i64 a1_1, .int .i64 a1_2, .int .i64 a1_3, .int .i64 a1_4, .int .i64 a1_5, .int .i64 a1_6]] => some ⟨Bool, F_laws_eqCmd fu (⟨a0_1, a0_2, a0_3, a0_4, a0_5, a0_6⟩ : S_impl_Cmd) (⟨a1_1, a1_2, a1_3, a1_4, a1_5, a1_6⟩ : S_impl_Cmd), enc_b, fun _ => true⟩ | _ => none
theorem hpc_laws_eqCmd (fu : Nat) : ∀ f xs o, pc_laws_eqCmd fu f xs = some o → ∀ y, o.x = some y → Good E Try.prog f xs (o.g y) := by
  intro f xs o h
  cases h
theorem goodv_laws_eqCmd (fu : Nat) (a_0 : S_impl_Cmd) (b_1 : S_impl_Cmd) (y : Bool) (hy : F_laws_eqCmd fu a_0 b_1 = some y) : Good E Try.prog 88 [(.agg [(.int .i64 a_0.Kind), (.int .i64 a_0.Expect), (.int .i64 a_0.Name), (.int .i64 a_0.Addr), (.int .i64 a_0.Number), (.int .i64 a_0.Proto)]), (.agg [(.int .i64 b_1.Kind), (.int .i64 b_1.Expect), (.int .i64 b_1.Name), (.int .i64 b_1.Addr), (.int .i64 b_1.Number), (.int .i64 b_1.Proto)])] (enc_b y) :=
  fun_good E_ok (pc_good (hpc_laws_eqCmd fu)) (fn := Try.f88) (c := body_laws_eqCmd) (out := out_b) (y := y) (by kernel_rfl) (by kernel_rfl) (by kernel_rfl) (lpok_laws_eqCmd fu) (fun d hd => out_b_enc d _ hd) ((ev_laws_eqCmd fu a_0 b_1).trans hy)
theorem good_laws_eqCmd (fu : Nat) : ∀ xs o, S_laws_eqCmd fu xs = some o → ∀ y, o.x = some y → Good E Try.prog 88 xs (o.g y) := by
  intro xs o h y hy
  unfold S_laws_eqCmd at h
  split at h
  · rename_i a0_1 a0_2 a0_3 a0_4 a0_5 a0_6 a1_1 a1_2 a1_3 a1_4 a1_5 a1_6
    cases h
    exact goodv_laws_eqCmd fu (⟨a0_1, a0_2, a0_3, a0_4, a0_5, a0_6⟩ : S_impl_Cmd) (⟨a1_1, a1_2, a1_3, a1_4, a1_5, a1_6⟩ : S_impl_Cmd) y hy
  · cases h

/-! laws.eqEntry -/
def F_laws_eqEntry (fu : Nat) (a_0 : S_impl_Entry) (b_1 : S_impl_Entry) : Option (Bool) :=
  (bif (a_0.Term != b_1.Term) then (some false) else (bif (a_0.Client != b_1.Client) then (some false) else (bif (a_0.Seq != b_1.Seq) then (some false) else ((F_laws_eqCmd fu a_0.Cmd b_1.Cmd).bind fun y196 =>
    (bif (!y196) then (some false) else (some true))))))
def pc_laws_eqEntry (fu : Nat) : Pc RT den := fun f xs => match f with | 88 => S_laws_eqCmd fu xs | _ => none
def msk_laws_eqEntry (b : Nat) : List Nat := []
def lp_laws_eqEntry (fu : Nat) : Lp RT den (Bool) := fun b s k => none
theorem ev_laws_eqEntry (fu : Nat) (a_0 : S_impl_Entry) (b_1 : S_impl_Entry) : evFun E (pc_laws_eqEntry fu) msk_laws_eqEntry (lp_laws_eqEntry fu) out_b 76 [(.agg [(.int .i64 a_0.Term), (.int .i64 a_0.Client), (.int .i64 a_0.Seq), (.int .i64 a_0.Cmd.Kind), (.int .i64 a_0.Cmd.Expect), (.int .i64 a_0.Cmd.Name), (.int .i64 a_0.Cmd.Addr), (.int .i64 a_0.Cmd.Number), (.int .i64 a_0.Cmd.Proto)]), (.agg [(.int .i64 b_1.Term), (.int .i64 b_1.Client), (.int .i64 b_1.Seq), (.int .i64 b_1.Cmd.Kind), (.int .i64 b_1.Cmd.Expect), (.int .i64 b_1.Cmd.Name), (.int .i64 b_1.Cmd.Addr), (.int .i64 b_1.Cmd.Number), (.int .i64 b_1.Cmd.Proto)])] = F_laws_eqEntry fu a_0 b_1 := by kernel_rfl
noncomputable def body_laws_eqEntry : Code := Try.f76.body.getD .skip
theorem lpok_laws_eqEntry (fu : Nat) : LpOk E (pc_laws_eqEntry fu) msk_laws_eqEntry (lp_laws_eqEntry fu) (loops 0 body_laws_eqEntry) := by
  have h : loops 0 body_laws_eqEntry = [] := by kernel_rfl
  rw [h]; intro p hp; cases hp
def S_laws_eqEntry (fu : Nat) (xs : List (D RT den)) : Option (Out RT den) := match xs with | [.agg [.int .i64 a0_1, .int .i64 a0_2, .int .i64 a0_3, .int .i64 a0_5, .int .i64 a0_6, .int .i64 a0_7, .int .i64 a0_8, .int .i64 a0_9, .int .i64 a0_10], .agg [.int .i64 a1_1, .int .i64 a1_2, .int .i64 a1_3, .int .i64 a1_5, .int .i64 a1_6, .int .i64 a1_7, .int .i64 a1_8, .int .i64 a1_9, .int .i64 a1_10]] => some ⟨Bool, F_laws_eqEntry fu (⟨a0_1, a0_2, a0_3, (⟨a0_5, a0_6, a0_7, a0_8, a0_9, a0_10⟩ : S_impl_Cmd)⟩ : S_impl_Entry) (⟨a1_1, a1_2, a1_3, (⟨a1_5, a1_6, a1_7, a1_8, a1_9, a1_10⟩ : S_impl_Cmd)⟩ : S_impl_Entry), enc_b, fun _ => true⟩ | _ => none
theorem hpc_laws_eqEntry (fu : Nat) : ∀ f xs o, pc_laws_eqEntry fu f xs = some o → ∀ y, o.x = some y → Good E Try.prog f xs (o.g y) := by
  intro f xs o h
  unfold pc_laws_eqEntry at h
  split at h
  · exact good_laws_eqCmd fu xs o h
  · cases h
theorem goodv_laws_eqEntry (fu : Nat) (a_0 : S_impl_Entry) (b_1 : S_impl_Entry) (y : Bool) (hy : F_laws_eqEntry fu a_0 b_1 = some y) : Good E Try.prog 76 [(.agg [(.int .i64 a_0.Term), (.int .i64 a_0.Client), (.int .i64 a_0.Seq), (.int .i64 a_0.Cmd.Kind), (.int .i64 a_0.Cmd.Expect), (.int .i64 a_0.Cmd.Name), (.int .i64 a_0.Cmd.Addr), (.int .i64 a_0.Cmd.Number), (.int .i64 a_0.Cmd.Proto)]), (.agg [(.int .i64 b_1.Term), (.int .i64 b_1.Client), (.int .i64 b_1.Seq), (.int .i64 b_1.Cmd.Kind), (.int .i64 b_1.Cmd.Expect), (.int .i64 b_1.Cmd.Name), (.int .i64 b_1.Cmd.Addr), (.int .i64 b_1.Cmd.Number), (.int .i64 b_1.Cmd.Proto)])] (enc_b y) :=
  fun_good E_ok (pc_good (hpc_laws_eqEntry fu)) (fn := Try.f76) (c := body_laws_eqEntry) (out := out_b) (y := y) (by kernel_rfl) (by kernel_rfl) (by kernel_rfl) (lpok_laws_eqEntry fu) (fun d hd => out_b_enc d _ hd) ((ev_laws_eqEntry fu a_0 b_1).trans hy)
theorem good_laws_eqEntry (fu : Nat) : ∀ xs o, S_laws_eqEntry fu xs = some o → ∀ y, o.x = some y → Good E Try.prog 76 xs (o.g y) := by
  intro xs o h y hy
  unfold S_laws_eqEntry at h
  split at h
  · rename_i a0_1 a0_2 a0_3 a0_5 a0_6 a0_7 a0_8 a0_9 a0_10 a1_1 a1_2 a1_3 a1_5 a1_6 a1_7 a1_8 a1_9 a1_10
    cases h
    exact goodv_laws_eqEntry fu (⟨a0_1, a0_2, a0_3, (⟨a0_5, a0_6, a0_7, a0_8, a0_9, a0_10⟩ : S_impl_Cmd)⟩ : S_impl_Entry) (⟨a1_1, a1_2, a1_3, (⟨a1_5, a1_6, a1_7, a1_8, a1_9, a1_10⟩ : S_impl_Cmd)⟩ : S_impl_Entry) y hy
  · cases h

/-! laws.eqEntryS -/
def F_laws_eqEntryS_B0 {ρ : Type} (fu : Nat) (a0_0 : (Sl S_impl_Entry)) (b1_1 : (Sl S_impl_Entry)) (k0 : Option ρ) (k1 : Option ρ) (i5_2 : Int) (go : Int → Option ρ) : Option ρ :=
  (bif (decide (i5_2 < ((a0_0.n : Nat) : Int))) then ((bif (decide (0 ≤ i5_2) && decide ((Int.toNat i5_2) < a0_0.n)) then some () else none : Option Unit).bind fun _ => ((bif (decide (0 ≤ i5_2) &&
    decide ((Int.toNat i5_2) < b1_1.n)) then some () else none : Option Unit).bind fun _ => ((F_laws_eqEntry fu (a0_0.f (Int.toNat i5_2)) (b1_1.f (Int.toNat i5_2))).bind fun y195 =>
    (bif (!y195) then k0 else (go (IntKind.wrap .i64 (i5_2 + 1))))))) else k1)
def F_laws_eqEntryS (fu : Nat) (a_0 : (Sl S_impl_Entry)) (b_1 : (Sl S_impl_Entry)) : Option (Bool) :=
  (bif (((a_0.n : Nat) : Int) != ((b_1.n : Nat) : Int)) then (some false) else (L (fun w0 go0 => F_laws_eqEntryS_B0 fu a_0 b_1 (some false) (some true) w0 go0) fu (0 : Int)))
def pc_laws_eqEntryS (fu : Nat) : Pc RT den := fun f xs => match f with | 76 => S_laws_eqEntry fu xs | _ => none
def msk_laws_eqEntryS (b : Nat) : List Nat := match b with | 0 => [2, 3, 4, 6, 7, 8, 9, 10, 11, 12, 13, 14, 15, 16, 17, 18, 19, 20, 21, 22, 23, 24, 25, 26] | 100000 => [0, 1, 2, 3, 5, 6, 7, 8, 9, 10, 11, 12, 13, 14, 15, 16, 17, 18, 19, 20, 21, 22, 23, 24, 25, 26] | _ => []
def ps_laws_eqEntryS_0 : List (Pat RT) := [.flat (.rs .impl_Entry), .flat (.rs .impl_Entry), .flat .dead, .flat .dead, .flat .dead, .flat (.int .i64), .flat .dead, .flat .dead, .flat .dead, .flat .dead, .flat .dead, .flat .dead, .flat .dead, .flat .dead, .flat .dead, .flat .dead, .flat .dead, .flat .dead, .flat .dead, .flat .dead, .flat .dead, .flat .dead, .flat .dead, .flat .dead, .flat .dead, .flat .dead, .flat .dead]
def os_laws_eqEntryS_0 : List (OP RT) := []
def conv_laws_eqEntryS_0 (r : Raw den ps_laws_eqEntryS_0 os_laws_eqEntryS_0) : ((Sl S_impl_Entry) × (Sl S_impl_Entry)) × (Int) := ((r.1.1, r.1.2.1), r.1.2.2.2.2.2.1)
def back_laws_eqEntryS_0 (c : (Sl S_impl_Entry) × (Sl S_impl_Entry)) (w : Int) : St RT den := ⟨[(.rs c.1.z .impl_Entry c.1.n c.1.f), (.rs c.2.z .impl_Entry c.2.n c.2.f), .dead, .dead, .dead, (.int .i64 w), .dead, .dead, .dead, .dead, .dead, .dead, .dead, .dead, .dead, .dead, .dead, .dead, .dead, .dead, .dead, .dead, .dead, .dead, .dead, .dead, .dead], []⟩
def Bk_laws_eqEntryS_0 {ρ : Type} (fu : Nat) (c : (Sl S_impl_Entry) × (Sl S_impl_Entry)) (k : Ex → St RT den → Option ρ) (w : Int) (go : (Int) → Option ρ) : Option ρ := F_laws_eqEntryS_B0 fu c.1 c.2 (k .ret ⟨[.dead, .dead, .dead, .dead, (.bool false), .dead, .dead, .dead, .dead, .dead, .dead, .dead, .dead, .dead, .dead, .dead, .dead, .dead, .dead, .dead, .dead, .dead, .dead, .dead, .dead, .dead, .dead], []⟩) (k (.exit 0) ⟨[.dead, .dead, .dead, .dead, .dead, .dead, .dead, .dead, .dead, .dead, .dead, .dead, .dead, .dead, .dead, .dead, .dead, .dead, .dead, .dead, .dead, .dead, .dead, .dead, .dead, .dead, .dead], []⟩) w go
def lp_laws_eqEntryS (fu : Nat) : Lp RT den (Bool) := fun b s k => match b with | 0 => handle ps_laws_eqEntryS_0 os_laws_eqEntryS_0 conv_laws_eqEntryS_0 (Bk_laws_eqEntryS_0 fu) fu s k | _ => none
theorem ev_laws_eqEntryS (fu : Nat) (a_0 : (Sl S_impl_Entry)) (b_1 : (Sl S_impl_Entry)) : evFun E (pc_laws_eqEntryS fu) msk_laws_eqEntryS (lp_laws_eqEntryS fu) out_b 37 [(.rs a_0.z .impl_Entry a_0.n a_0.f), (.rs b_1.z .impl_Entry b_1.n b_1.f)] = F_laws_eqEntryS fu a_0 b_1 := by kernel_rfl
noncomputable def body_laws_eqEntryS : Code := Try.f37.body.getD .skip
noncomputable def lc_laws_eqEntryS_0 : Code := ((loops 0 body_laws_eqEntryS).getD 0 (0, .skip)).2
theorem round_laws_eqEntryS_0 (fu : Nat) (it : St RT den → Option (Bool)) (k : Ex → St RT den → Option (Bool)) c w : evCode E (pc_laws_eqEntryS fu) msk_laws_eqEntryS (lp_laws_eqEntryS fu) 0 lc_laws_eqEntryS_0 (back_laws_eqEntryS_0 c w) (after (msk_laws_eqEntryS 0) (msk_laws_eqEntryS 100000) 0 it k) = Bk_laws_eqEntryS_0 fu c k w (fun w => it (back_laws_eqEntryS_0 c w)) := by kernel_rfl
theorem lpok_laws_eqEntryS_0 (fu : Nat) : ∀ s k r, lp_laws_eqEntryS fu 0 s k = some r → ∃ fuel, iter (msk_laws_eqEntryS 0) (msk_laws_eqEntryS 100000) s.objs.length (evCode E (pc_laws_eqEntryS fu) msk_laws_eqEntryS (lp_laws_eqEntryS fu) 0 lc_laws_eqEntryS_0) fuel s k = some r :=
  handle_ok (ps := ps_laws_eqEntryS_0) (os := os_laws_eqEntryS_0) (conv := conv_laws_eqEntryS_0) (B := Bk_laws_eqEntryS_0 fu) (fu := fu) back_laws_eqEntryS_0 (fun raw => by kernel_rfl) 0 (fun c w => by kernel_rfl) (round_laws_eqEntryS_0 fu)
theorem lpok_laws_eqEntryS (fu : Nat) : LpOk E (pc_laws_eqEntryS fu) msk_laws_eqEntryS (lp_laws_eqEntryS fu) (loops 0 body_laws_eqEntryS) := loop_all 1 (by kernel_rfl) fun i hi => match i, hi with
  | 0, _ => by
    have h : (loops 0 body_laws_eqEntryS).getD 0 (0, .skip) = (0, lc_laws_eqEntryS_0) := by kernel_rfl
    rw [h]; exact lpok_laws_eqEntryS_0 fu
  | i + 1, hi => absurd hi (by omega)
def S_laws_eqEntryS (fu : Nat) (xs : List (D RT den)) : Option (Out RT den) := match xs with | [.rs za0_0 .impl_Entry na0_0 fa0_0, .rs za1_0 .impl_Entry na1_0 fa1_0] => some ⟨Bool, F_laws_eqEntryS fu (⟨za0_0, na0_0, fa0_0⟩ : (Sl S_impl_Entry)) (⟨za1_0, na1_0, fa1_0⟩ : (Sl S_impl_Entry)), enc_b, fun _ => true⟩ | _ => none
theorem hpc_laws_eqEntryS (fu : Nat) : ∀ f xs o, pc_laws_eqEntryS fu f xs = some o → ∀ y, o.x = some y → Good E Try.prog f xs (o.g y) := by
  intro f xs o h
  unfold pc_laws_eqEntryS at h
  split at h
  · exact good_laws_eqEntry fu xs o h
  · cases h
theorem goodv_laws_eqEntryS (fu : Nat) (a_0 : (Sl S_impl_Entry)) (b_1 : (Sl S_impl_Entry)) (y : Bool) (hy : F_laws_eqEntryS fu a_0 b_1 = some y) : Good E Try.prog 37 [(.rs a_0.z .impl_Entry a_0.n a_0.f), (.rs b_1.z .impl_Entry b_1.n b_1.f)] (enc_b y) :=
  fun_good E_ok (pc_good (hpc_laws_eqEntryS fu)) (fn := Try.f37) (c := body_laws_eqEntryS) (out := out_b) (y := y) (by kernel_rfl) (by kernel_rfl) (by kernel_rfl) (lpok_laws_eqEntryS fu) (fun d hd => out_b_enc d _ hd) ((ev_laws_eqEntryS fu a_0 b_1).trans hy)
theorem good_laws_eqEntryS (fu : Nat) : ∀ xs o, S_laws_eqEntryS fu xs = some o → ∀ y, o.x = some y → Good E Try.prog 37 xs (o.g y) := by
  intro xs o h y hy
  unfold S_laws_eqEntryS at h
  split at h
  · rename_i za0_0 na0_0 fa0_0 za1_0 na1_0 fa1_0
    cases h
    exact goodv_laws_eqEntryS fu (⟨za0_0, na0_0, fa0_0⟩ : (Sl S_impl_Entry)) (⟨za1_0, na1_0, fa1_0⟩ : (Sl S_impl_Entry)) y hy
  · cases h

/-! laws.eqInt64S -/
def F_laws_eqInt64S_B0 {ρ : Type} (fu : Nat) (a0_0 : (Sl Int)) (b1_1 : (Sl Int)) (k0 : Option ρ) (k1 : Option ρ) (i5_2 : Int) (go : Int → Option ρ) : Option ρ :=
  (bif (decide (i5_2 < ((a0_0.n : Nat) : Int))) then ((bif (decide (0 ≤ i5_2) && decide ((Int.toNat i5_2) < a0_0.n)) then some () else none : Option Unit).bind fun _ => ((bif (decide (0 ≤ i5_2) &&
    decide ((Int.toNat i5_2) < b1_1.n)) then some () else none : Option Unit).bind fun _ => (bif ((a0_0.f (Int.toNat i5_2)) != (b1_1.f (Int.toNat i5_2))) then k0 else (go (IntKind.wrap .i64 (i5_2 + 1)))))) else
    k1)
def F_laws_eqInt64S (fu : Nat) (a_0 : (Sl Int)) (b_1 : (Sl Int)) : Option (Bool) :=
  (bif (((a_0.n : Nat) : Int) != ((b_1.n : Nat) : Int)) then (some false) else (L (fun w0 go0 => F_laws_eqInt64S_B0 fu a_0 b_1 (some false) (some true) w0 go0) fu (0 : Int)))
def pc_laws_eqInt64S (fu : Nat) : Pc RT den := fun f xs => none
def msk_laws_eqInt64S (b : Nat) : List Nat := match b with | 0 => [2, 3, 4, 6, 7, 8, 9, 10, 11, 12, 13, 14, 15, 16, 17, 18, 19, 20, 21, 22, 23, 24, 25] | 100000 => [0, 1, 2, 3, 5, 6, 7, 8, 9, 10, 11, 12, 13, 14, 15, 16, 17, 18, 19, 20, 21, 22, 23, 24, 25] | _ => []
def ps_laws_eqInt64S_0 : List (Pat RT) := [.flat (.rs .i64), .flat (.rs .i64), .flat .dead, .flat .dead, .flat .dead, .flat (.int .i64), .flat .dead, .flat .dead, .flat .dead, .flat .dead, .flat .dead, .flat .dead, .flat .dead, .flat .dead, .flat .dead, .flat .dead, .flat .dead, .flat .dead, .flat .dead, .flat .dead, .flat .dead, .flat .dead, .flat .dead, .flat .dead, .flat .dead, .flat .dead]
def os_laws_eqInt64S_0 : List (OP RT) := []
def conv_laws_eqInt64S_0 (r : Raw den ps_laws_eqInt64S_0 os_laws_eqInt64S_0) : ((Sl Int) × (Sl Int)) × (Int) := ((r.1.1, r.1.2.1), r.1.2.2.2.2.2.1)
def back_laws_eqInt64S_0 (c : (Sl Int) × (Sl Int)) (w : Int) : St RT den := ⟨[(.rs c.1.z .i64 c.1.n c.1.f), (.rs c.2.z .i64 c.2.n c.2.f), .dead, .dead, .dead, (.int .i64 w), .dead, .dead, .dead, .dead, .dead, .dead, .dead, .dead, .dead, .dead, .dead, .dead, .dead, .dead, .dead, .dead, .dead, .dead, .dead, .dead], []⟩
def Bk_laws_eqInt64S_0 {ρ : Type} (fu : Nat) (c : (Sl Int) × (Sl Int)) (k : Ex → St RT den → Option ρ) (w : Int) (go : (Int) → Option ρ) : Option ρ := F_laws_eqInt64S_B0 fu c.1 c.2 (k .ret ⟨[.dead, .dead, .dead, .dead, (.bool false), .dead, .dead, .dead, .dead, .dead, .dead, .dead, .dead, .dead, .dead, .dead, .dead, .dead, .dead, .dead, .dead, .dead, .dead, .dead, .dead, .dead], []⟩) (k (.exit 0) ⟨[.dead, .dead, .dead, .dead, .dead, .dead, .dead, .dead, .dead, .dead, .dead, .dead, .dead, .dead, .dead, .dead, .dead, .dead, .dead, .dead, .dead, .dead, .dead, .dead, .dead, .dead], []⟩) w go
def lp_laws_eqInt64S (fu : Nat) : Lp RT den (Bool) := fun b s k => match b with | 0 => handle ps_laws_eqInt64S_0 os_laws_eqInt64S_0 conv_laws_eqInt64S_0 (Bk_laws_eqInt64S_0 fu) fu s k | _ => none
theorem ev_laws_eqInt64S (fu : Nat) (a_0 : (Sl Int)) (b_1 : (Sl Int)) : evFun E (pc_laws_eqInt64S fu) msk_laws_eqInt64S (lp_laws_eqInt64S fu) out_b 38 [(.rs a_0.z .i64 a_0.n a_0.f), (.rs b_1.z .i64 b_1.n b_1.f)] = F_laws_eqInt64S fu a_0 b_1 := by kernel_rfl
noncomputable def body_laws_eqInt64S : Code := Try.f38.body.getD .skip
noncomputable def lc_laws_eqInt64S_0 : Code := ((loops 0 body_laws_eqInt64S).getD 0 (0, .skip)).2
theorem round_laws_eqInt64S_0 (fu : Nat) (it : St RT den → Option (Bool)) (k : Ex → St RT den → Option (Bool)) c w : evCode E (pc_laws_eqInt64S fu) msk_laws_eqInt64S (lp_laws_eqInt64S fu) 0 lc_laws_eqInt64S_0 (back_laws_eqInt64S_0 c w) (after (msk_laws_eqInt64S 0) (msk_laws_eqInt64S 100000) 0 it k) = Bk_laws_eqInt64S_0 fu c k w (fun w => it (back_laws_eqInt64S_0 c w)) := by kernel_rfl
theorem lpok_laws_eqInt64S_0 (fu : Nat) : ∀ s k r, lp_laws_eqInt64S fu 0 s k = some r → ∃ fuel, iter (msk_laws_eqInt64S 0) (msk_laws_eqInt64S 100000) s.objs.length (evCode E (pc_laws_eqInt64S fu) msk_laws_eqInt64S (lp_laws_eqInt64S fu) 0 lc_laws_eqInt64S_0) fuel s k = some r :=
  handle_ok (ps := ps_laws_eqInt64S_0) (os := os_laws_eqInt64S_0) (conv := conv_laws_eqInt64S_0) (B := Bk_laws_eqInt64S_0 fu) (fu := fu) back_laws_eqInt64S_0 (fun raw => by kernel_rfl) 0 (fun c w => by kernel_rfl) (round_laws_eqInt64S_0 fu)
theorem lpok_laws_eqInt64S (fu : Nat) : LpOk E (pc_laws_eqInt64S fu) msk_laws_eqInt64S (lp_laws_eqInt64S fu) (loops 0 body_laws_eqInt64S) := loop_all 1 (by kernel_rfl) fun i hi => match i, hi with
  | 0, _ => by
    have h : (loops 0 body_laws_eqInt64S).getD 0 (0, .skip) = (0, lc_laws_eqInt64S_0) := by kernel_rfl
    rw [h]; exact lpok_laws_eqInt64S_0 fu
  | i + 1, hi => absurd hi (by omega)
def S_laws_eqInt64S (fu : Nat) (xs : List (D RT den)) : Option (Out RT den) := match xs with | [.rs za0_0 .i64 na0_0 fa0_0, .rs za1_0 .i64 na1_0 fa1_0] => some ⟨Bool, F_laws_eqInt64S fu (⟨za0_0, na0_0, fa0_0⟩ : (Sl Int)) (⟨za1_0, na1_0, fa1_0⟩ : (Sl Int)), enc_b, fun _ => true⟩ | _ => none
theorem hpc_laws_eqInt64S (fu : Nat) : ∀ f xs o, pc_laws_eqInt64S fu f xs = some o → ∀ y, o.x = some y → Good E Try.prog f xs (o.g y) := by
  intro f xs o h
  cases h
theorem goodv_laws_eqInt64S (fu : Nat) (a_0 : (Sl Int)) (b_1 : (Sl Int)) (y : Bool) (hy : F_laws_eqInt64S fu a_0 b_1 = some y) : Good E Try.prog 38 [(.rs a_0.z .i64 a_0.n a_0.f), (.rs b_1.z .i64 b_1.n b_1.f)] (enc_b y) :=
  fun_good E_ok (pc_good (hpc_laws_eqInt64S fu)) (fn := Try.f38) (c := body_laws_eqInt64S) (out := out_b) (y := y) (by kernel_rfl) (by kernel_rfl) (by kernel_rfl) (lpok_laws_eqInt64S fu) (fun d hd => out_b_enc d _ hd) ((ev_laws_eqInt64S fu a_0 b_1).trans hy)
theorem good_laws_eqInt64S (fu : Nat) : ∀ xs o, S_laws_eqInt64S fu xs = some o → ∀ y, o.x = some y → Good E Try.prog 38 xs (o.g y) := by
  intro xs o h y hy
  unfold S_laws_eqInt64S at h
  split at h
  · rename_i za0_0 na0_0 fa0_0 za1_0 na1_0 fa1_0
    cases h
    exact goodv_laws_eqInt64S fu (⟨za0_0, na0_0, fa0_0⟩ : (Sl Int)) (⟨za1_0, na1_0, fa1_0⟩ : (Sl Int)) y hy
  · cases h

/-! laws.eqNode -/
def F_laws_eqNode (fu : Nat) (a_0 : S_impl_Node) (b_1 : S_impl_Node) : Option (Bool) :=
  (bif (a_0.Id != b_1.Id) then (some false) else (bif (a_0.Peers != b_1.Peers) then (some false) else (bif (a_0.Term != b_1.Term) then (some false) else (bif (a_0.Voted != b_1.Voted) then
    (some false) else ((F_laws_eqEntryS fu a_0.Log b_1.Log).bind fun y191 => (bif (!y191) then (some false) else (bif (a_0.Role != b_1.Role) then (some false) else (bif (a_0.Commit != b_1.Commit) then
    (some false) else ((F_laws_eqInt64S fu a_0.Votes b_1.Votes).bind fun y192 => (bif (!y192) then (some false) else ((F_laws_eqInt64S fu a_0.Next b_1.Next).bind fun y193 => (bif (!y193) then
    (some false) else ((F_laws_eqInt64S fu a_0.Match b_1.Match).bind fun y194 => (bif (!y194) then (some false) else (some true)))))))))))))))
def pc_laws_eqNode (fu : Nat) : Pc RT den := fun f xs => match f with | 37 => S_laws_eqEntryS fu xs | 38 => S_laws_eqInt64S fu xs | _ => none
def msk_laws_eqNode (b : Nat) : List Nat := []
def lp_laws_eqNode (fu : Nat) : Lp RT den (Bool) := fun b s k => none
theorem ev_laws_eqNode (fu : Nat) (a_0 : S_impl_Node) (b_1 : S_impl_Node) : evFun E (pc_laws_eqNode fu) msk_laws_eqNode (lp_laws_eqNode fu) out_b 14 [(.agg [(.int .i64 a_0.Id), (.int .i64 a_0.Peers), (.int .i64 a_0.Term), (.int .i64 a_0.Voted), (.rs a_0.Log.z .impl_Entry a_0.Log.n a_0.Log.f), (.int .i64 a_0.Role), (.int .i64 a_0.Commit), (.rs a_0.Votes.z .i64 a_0.Votes.n a_0.Votes.f), (.rs a_0.Next.z .i64 a_0.Next.n a_0.Next.f), (.rs a_0.Match.z .i64 a_0.Match.n a_0.Match.f)]), (.agg [(.int .i64 b_1.Id), (.int .i64 b_1.Peers), (.int .i64 b_1.Term), (.int .i64 b_1.Voted), (.rs b_1.Log.z .impl_Entry b_1.Log.n b_1.Log.f), (.int .i64 b_1.Role), (.int .i64 b_1.Commit), (.rs b_1.Votes.z .i64 b_1.Votes.n b_1.Votes.f), (.rs b_1.Next.z .i64 b_1.Next.n b_1.Next.f), (.rs b_1.Match.z .i64 b_1.Match.n b_1.Match.f)])] = F_laws_eqNode fu a_0 b_1 := by kernel_rfl
noncomputable def body_laws_eqNode : Code := Try.f14.body.getD .skip
theorem lpok_laws_eqNode (fu : Nat) : LpOk E (pc_laws_eqNode fu) msk_laws_eqNode (lp_laws_eqNode fu) (loops 0 body_laws_eqNode) := by
  have h : loops 0 body_laws_eqNode = [] := by kernel_rfl
  rw [h]; intro p hp; cases hp
def S_laws_eqNode (fu : Nat) (xs : List (D RT den)) : Option (Out RT den) := match xs with | [.agg [.int .i64 a0_1, .int .i64 a0_2, .int .i64 a0_3, .int .i64 a0_4, .rs za0_5 .impl_Entry na0_5 fa0_5, .int .i64 a0_6, .int .i64 a0_7, .rs za0_8 .i64 na0_8 fa0_8, .rs za0_9 .i64 na0_9 fa0_9, .rs za0_10 .i64 na0_10 fa0_10], .agg [.int .i64 a1_1, .int .i64 a1_2, .int .i64 a1_3, .int .i64 a1_4, .rs za1_5 .impl_Entry na1_5 fa1_5, .int .i64 a1_6, .int .i64 a1_7, .rs za1_8 .i64 na1_8 fa1_8, .rs za1_9 .i64 na1_9 fa1_9, .rs za1_10 .i64 na1_10 fa1_10]] => some ⟨Bool, F_laws_eqNode fu (⟨a0_1, a0_2, a0_3, a0_4, (⟨za0_5, na0_5, fa0_5⟩ : (Sl S_impl_Entry)), a0_6, a0_7, (⟨za0_8, na0_8, fa0_8⟩ : (Sl Int)), (⟨za0_9, na0_9, fa0_9⟩ : (Sl Int)), (⟨za0_10, na0_10, fa0_10⟩ : (Sl Int))⟩ : S_impl_Node) (⟨a1_1, a1_2, a1_3, a1_4, (⟨za1_5, na1_5, fa1_5⟩ : (Sl S_impl_Entry)), a1_6, a1_7, (⟨za1_8, na1_8, fa1_8⟩ : (Sl Int)), (⟨za1_9, na1_9, fa1_9⟩ : (Sl Int)), (⟨za1_10, na1_10, fa1_10⟩ : (Sl Int))⟩ : S_impl_Node), enc_b, fun _ => true⟩ | _ => none
theorem hpc_laws_eqNode (fu : Nat) : ∀ f xs o, pc_laws_eqNode fu f xs = some o → ∀ y, o.x = some y → Good E Try.prog f xs (o.g y) := by
  intro f xs o h
  unfold pc_laws_eqNode at h
  split at h
  · exact good_laws_eqEntryS fu xs o h
  · exact good_laws_eqInt64S fu xs o h
  · cases h
theorem goodv_laws_eqNode (fu : Nat) (a_0 : S_impl_Node) (b_1 : S_impl_Node) (y : Bool) (hy : F_laws_eqNode fu a_0 b_1 = some y) : Good E Try.prog 14 [(.agg [(.int .i64 a_0.Id), (.int .i64 a_0.Peers), (.int .i64 a_0.Term), (.int .i64 a_0.Voted), (.rs a_0.Log.z .impl_Entry a_0.Log.n a_0.Log.f), (.int .i64 a_0.Role), (.int .i64 a_0.Commit), (.rs a_0.Votes.z .i64 a_0.Votes.n a_0.Votes.f), (.rs a_0.Next.z .i64 a_0.Next.n a_0.Next.f), (.rs a_0.Match.z .i64 a_0.Match.n a_0.Match.f)]), (.agg [(.int .i64 b_1.Id), (.int .i64 b_1.Peers), (.int .i64 b_1.Term), (.int .i64 b_1.Voted), (.rs b_1.Log.z .impl_Entry b_1.Log.n b_1.Log.f), (.int .i64 b_1.Role), (.int .i64 b_1.Commit), (.rs b_1.Votes.z .i64 b_1.Votes.n b_1.Votes.f), (.rs b_1.Next.z .i64 b_1.Next.n b_1.Next.f), (.rs b_1.Match.z .i64 b_1.Match.n b_1.Match.f)])] (enc_b y) :=
  fun_good E_ok (pc_good (hpc_laws_eqNode fu)) (fn := Try.f14) (c := body_laws_eqNode) (out := out_b) (y := y) (by kernel_rfl) (by kernel_rfl) (by kernel_rfl) (lpok_laws_eqNode fu) (fun d hd => out_b_enc d _ hd) ((ev_laws_eqNode fu a_0 b_1).trans hy)
theorem good_laws_eqNode (fu : Nat) : ∀ xs o, S_laws_eqNode fu xs = some o → ∀ y, o.x = some y → Good E Try.prog 14 xs (o.g y) := by
  intro xs o h y hy
  unfold S_laws_eqNode at h
  split at h
  · rename_i a0_1 a0_2 a0_3 a0_4 za0_5 na0_5 fa0_5 a0_6 a0_7 za0_8 na0_8 fa0_8 za0_9 na0_9 fa0_9 za0_10 na0_10 fa0_10 a1_1 a1_2 a1_3 a1_4 za1_5 na1_5 fa1_5 a1_6 a1_7 za1_8 na1_8 fa1_8 za1_9 na1_9 fa1_9 za1_10 na1_10 fa1_10
    cases h
    exact goodv_laws_eqNode fu (⟨a0_1, a0_2, a0_3, a0_4, (⟨za0_5, na0_5, fa0_5⟩ : (Sl S_impl_Entry)), a0_6, a0_7, (⟨za0_8, na0_8, fa0_8⟩ : (Sl Int)), (⟨za0_9, na0_9, fa0_9⟩ : (Sl Int)), (⟨za0_10, na0_10, fa0_10⟩ : (Sl Int))⟩ : S_impl_Node) (⟨a1_1, a1_2, a1_3, a1_4, (⟨za1_5, na1_5, fa1_5⟩ : (Sl S_impl_Entry)), a1_6, a1_7, (⟨za1_8, na1_8, fa1_8⟩ : (Sl Int)), (⟨za1_9, na1_9, fa1_9⟩ : (Sl Int)), (⟨za1_10, na1_10, fa1_10⟩ : (Sl Int))⟩ : S_impl_Node) y hy
  · cases h

/-! laws.FnExactCommitOf -/
def F_laws_FnExactCommitOf (fu : Nat) (aN_0 : S_laws_Node) : Option (Bool) :=
  ((F_laws_szNode fu aN_0 1048576).bind fun y1 => (bif (decide (y1 < 0)) then (some true) else ((F_laws_toNode fu aN_0).bind fun y2 => ((F_spec_CommitOf fu y2).bind fun y3 =>
    ((F_laws_toNode fu aN_0).bind fun y4 => ((F_impl_CommitOf fu y4).bind fun y5 => ((F_laws_eqIntResult fu y5 y3).bind fun y6 => (bif (!y6) then (some false) else ((F_laws_toNode fu aN_0).bind fun y7 =>
    ((F_laws_eqNode fu y4 y7).bind fun y8 => (bif (!y8) then (some false) else (some true))))))))))))
def pc_laws_FnExactCommitOf (fu : Nat) : Pc RT den := fun f xs => match f with | 9 => S_laws_szNode fu xs | 10 => S_spec_CommitOf fu xs | 11 => S_laws_toNode fu xs | 12 => S_impl_CommitOf fu xs | 13 => S_laws_eqIntResult fu xs | 14 => S_laws_eqNode fu xs | _ => none
def msk_laws_FnExactCommitOf (b : Nat) : List Nat := []
def lp_laws_FnExactCommitOf (fu : Nat) : Lp RT den (Bool) := fun b s k => none
theorem ev_laws_FnExactCommitOf (fu : Nat) (aN_0 : S_laws_Node) : evFun E (pc_laws_FnExactCommitOf fu) msk_laws_FnExactCommitOf (lp_laws_FnExactCommitOf fu) out_b 3 [(.agg [(.int .i64 aN_0.Id), (.int .i64 aN_0.Peers), (.int .i64 aN_0.Term), (.int .i64 aN_0.Voted), (.rs aN_0.Log.z .laws_Entry aN_0.Log.n aN_0.Log.f), (.int .i64 aN_0.Role), (.int .i64 aN_0.Commit), (.rs aN_0.Votes.z .i64 aN_0.Votes.n aN_0.Votes.f), (.rs aN_0.Next.z .i64 aN_0.Next.n aN_0.Next.f), (.rs aN_0.Match.z .i64 aN_0.Match.n aN_0.Match.f)])] = F_laws_FnExactCommitOf fu aN_0 := by kernel_rfl
noncomputable def body_laws_FnExactCommitOf : Code := Try.f3.body.getD .skip
theorem lpok_laws_FnExactCommitOf (fu : Nat) : LpOk E (pc_laws_FnExactCommitOf fu) msk_laws_FnExactCommitOf (lp_laws_FnExactCommitOf fu) (loops 0 body_laws_FnExactCommitOf) := by
  have h : loops 0 body_laws_FnExactCommitOf = [] := by kernel_rfl
  rw [h]; intro p hp; cases hp
def S_laws_FnExactCommitOf (fu : Nat) (xs : List (D RT den)) : Option (Out RT den) := match xs with | [.agg [.int .i64 a0_1, .int .i64 a0_2, .int .i64 a0_3, .int .i64 a0_4, .rs za0_5 .laws_Entry na0_5 fa0_5, .int .i64 a0_6, .int .i64 a0_7, .rs za0_8 .i64 na0_8 fa0_8, .rs za0_9 .i64 na0_9 fa0_9, .rs za0_10 .i64 na0_10 fa0_10]] => some ⟨Bool, F_laws_FnExactCommitOf fu (⟨a0_1, a0_2, a0_3, a0_4, (⟨za0_5, na0_5, fa0_5⟩ : (Sl S_laws_Entry)), a0_6, a0_7, (⟨za0_8, na0_8, fa0_8⟩ : (Sl Int)), (⟨za0_9, na0_9, fa0_9⟩ : (Sl Int)), (⟨za0_10, na0_10, fa0_10⟩ : (Sl Int))⟩ : S_laws_Node), enc_b, fun _ => true⟩ | _ => none
theorem hpc_laws_FnExactCommitOf (fu : Nat) : ∀ f xs o, pc_laws_FnExactCommitOf fu f xs = some o → ∀ y, o.x = some y → Good E Try.prog f xs (o.g y) := by
  intro f xs o h
  unfold pc_laws_FnExactCommitOf at h
  split at h
  · exact good_laws_szNode fu xs o h
  · exact good_spec_CommitOf fu xs o h
  · exact good_laws_toNode fu xs o h
  · exact good_impl_CommitOf fu xs o h
  · exact good_laws_eqIntResult fu xs o h
  · exact good_laws_eqNode fu xs o h
  · cases h
theorem goodv_laws_FnExactCommitOf (fu : Nat) (aN_0 : S_laws_Node) (y : Bool) (hy : F_laws_FnExactCommitOf fu aN_0 = some y) : Good E Try.prog 3 [(.agg [(.int .i64 aN_0.Id), (.int .i64 aN_0.Peers), (.int .i64 aN_0.Term), (.int .i64 aN_0.Voted), (.rs aN_0.Log.z .laws_Entry aN_0.Log.n aN_0.Log.f), (.int .i64 aN_0.Role), (.int .i64 aN_0.Commit), (.rs aN_0.Votes.z .i64 aN_0.Votes.n aN_0.Votes.f), (.rs aN_0.Next.z .i64 aN_0.Next.n aN_0.Next.f), (.rs aN_0.Match.z .i64 aN_0.Match.n aN_0.Match.f)])] (enc_b y) :=
  fun_good E_ok (pc_good (hpc_laws_FnExactCommitOf fu)) (fn := Try.f3) (c := body_laws_FnExactCommitOf) (out := out_b) (y := y) (by kernel_rfl) (by kernel_rfl) (by kernel_rfl) (lpok_laws_FnExactCommitOf fu) (fun d hd => out_b_enc d _ hd) ((ev_laws_FnExactCommitOf fu aN_0).trans hy)
theorem good_laws_FnExactCommitOf (fu : Nat) : ∀ xs o, S_laws_FnExactCommitOf fu xs = some o → ∀ y, o.x = some y → Good E Try.prog 3 xs (o.g y) := by
  intro xs o h y hy
  unfold S_laws_FnExactCommitOf at h
  split at h
  · rename_i a0_1 a0_2 a0_3 a0_4 za0_5 na0_5 fa0_5 a0_6 a0_7 za0_8 na0_8 fa0_8 za0_9 na0_9 fa0_9 za0_10 na0_10 fa0_10
    cases h
    exact goodv_laws_FnExactCommitOf fu (⟨a0_1, a0_2, a0_3, a0_4, (⟨za0_5, na0_5, fa0_5⟩ : (Sl S_laws_Entry)), a0_6, a0_7, (⟨za0_8, na0_8, fa0_8⟩ : (Sl Int)), (⟨za0_9, na0_9, fa0_9⟩ : (Sl Int)), (⟨za0_10, na0_10, fa0_10⟩ : (Sl Int))⟩ : S_laws_Node) y hy
  · cases h

/-! laws.szMail -/
def F_laws_szMail (fu : Nat) (a_0 : S_laws_Mail) (left_1 : Int) : Option (Int) :=
  ((F_laws_szEntryS fu a_0.Entries left_1).bind fun y209 => (bif (decide (y209 < 0)) then (some (-1)) else (some y209)))
def pc_laws_szMail (fu : Nat) : Pc RT den := fun f xs => match f with | 31 => S_laws_szEntryS fu xs | _ => none
def msk_laws_szMail (b : Nat) : List Nat := []
def lp_laws_szMail (fu : Nat) : Lp RT den (Int) := fun b s k => none
theorem ev_laws_szMail (fu : Nat) (a_0 : S_laws_Mail) (left_1 : Int) : evFun E (pc_laws_szMail fu) msk_laws_szMail (lp_laws_szMail fu) out_i64 15 [(.agg [(.int .i64 a_0.Kind), (.int .i64 a_0.From), (.int .i64 a_0.To), (.int .i64 a_0.Term), (.int .i64 a_0.Index), (.int .i64 a_0.Last), (.int .i64 a_0.Commit), (.bool a_0.Ok), (.rs a_0.Entries.z .laws_Entry a_0.Entries.n a_0.Entries.f)]), (.int .i64 left_1)] = F_laws_szMail fu a_0 left_1 := by kernel_rfl
noncomputable def body_laws_szMail : Code := Try.f15.body.getD .skip
theorem lpok_laws_szMail (fu : Nat) : LpOk E (pc_laws_szMail fu) msk_laws_szMail (lp_laws_szMail fu) (loops 0 body_laws_szMail) := by
  have h : loops 0 body_laws_szMail = [] := by kernel_rfl
  rw [h]; intro p hp; cases hp
def S_laws_szMail (fu : Nat) (xs : List (D RT den)) : Option (Out RT den) := match xs with | [.agg [.int .i64 a0_1, .int .i64 a0_2, .int .i64 a0_3, .int .i64 a0_4, .int .i64 a0_5, .int .i64 a0_6, .int .i64 a0_7, .bool a0_8, .rs za0_9 .laws_Entry na0_9 fa0_9], .int .i64 a1_0] => some ⟨Int, F_laws_szMail fu (⟨a0_1, a0_2, a0_3, a0_4, a0_5, a0_6, a0_7, a0_8, (⟨za0_9, na0_9, fa0_9⟩ : (Sl S_laws_Entry))⟩ : S_laws_Mail) a1_0, enc_i64, fun _ => true⟩ | _ => none
theorem hpc_laws_szMail (fu : Nat) : ∀ f xs o, pc_laws_szMail fu f xs = some o → ∀ y, o.x = some y → Good E Try.prog f xs (o.g y) := by
  intro f xs o h
  unfold pc_laws_szMail at h
  split at h
  · exact good_laws_szEntryS fu xs o h
  · cases h
theorem goodv_laws_szMail (fu : Nat) (a_0 : S_laws_Mail) (left_1 : Int) (y : Int) (hy : F_laws_szMail fu a_0 left_1 = some y) : Good E Try.prog 15 [(.agg [(.int .i64 a_0.Kind), (.int .i64 a_0.From), (.int .i64 a_0.To), (.int .i64 a_0.Term), (.int .i64 a_0.Index), (.int .i64 a_0.Last), (.int .i64 a_0.Commit), (.bool a_0.Ok), (.rs a_0.Entries.z .laws_Entry a_0.Entries.n a_0.Entries.f)]), (.int .i64 left_1)] (enc_i64 y) :=
  fun_good E_ok (pc_good (hpc_laws_szMail fu)) (fn := Try.f15) (c := body_laws_szMail) (out := out_i64) (y := y) (by kernel_rfl) (by kernel_rfl) (by kernel_rfl) (lpok_laws_szMail fu) (fun d hd => out_i64_enc d _ hd) ((ev_laws_szMail fu a_0 left_1).trans hy)
theorem good_laws_szMail (fu : Nat) : ∀ xs o, S_laws_szMail fu xs = some o → ∀ y, o.x = some y → Good E Try.prog 15 xs (o.g y) := by
  intro xs o h y hy
  unfold S_laws_szMail at h
  split at h
  · rename_i a0_1 a0_2 a0_3 a0_4 a0_5 a0_6 a0_7 a0_8 za0_9 na0_9 fa0_9 a1_0
    cases h
    exact goodv_laws_szMail fu (⟨a0_1, a0_2, a0_3, a0_4, a0_5, a0_6, a0_7, a0_8, (⟨za0_9, na0_9, fa0_9⟩ : (Sl S_laws_Entry))⟩ : S_laws_Mail) a1_0 y hy
  · cases h

/-! laws.toMail -/
def F_laws_toMail (fu : Nat) (a_0 : S_laws_Mail) : Option (S_impl_Mail) :=
  ((F_laws_toEntryS fu a_0.Entries).bind fun y210 => (some (⟨a_0.Kind, a_0.From, a_0.To, a_0.Term, a_0.Index, a_0.Last, a_0.Commit, a_0.Ok, y210⟩ : S_impl_Mail)))
def pc_laws_toMail (fu : Nat) : Pc RT den := fun f xs => match f with | 34 => S_laws_toEntryS fu xs | _ => none
def msk_laws_toMail (b : Nat) : List Nat := []
def lp_laws_toMail (fu : Nat) : Lp RT den (S_impl_Mail) := fun b s k => none
theorem ev_laws_toMail (fu : Nat) (a_0 : S_laws_Mail) : evFun E (pc_laws_toMail fu) msk_laws_toMail (lp_laws_toMail fu) out_impl_Mail 17 [(.agg [(.int .i64 a_0.Kind), (.int .i64 a_0.From), (.int .i64 a_0.To), (.int .i64 a_0.Term), (.int .i64 a_0.Index), (.int .i64 a_0.Last), (.int .i64 a_0.Commit), (.bool a_0.Ok), (.rs a_0.Entries.z .laws_Entry a_0.Entries.n a_0.Entries.f)])] = F_laws_toMail fu a_0 := by kernel_rfl
noncomputable def body_laws_toMail : Code := Try.f17.body.getD .skip
theorem lpok_laws_toMail (fu : Nat) : LpOk E (pc_laws_toMail fu) msk_laws_toMail (lp_laws_toMail fu) (loops 0 body_laws_toMail) := by
  have h : loops 0 body_laws_toMail = [] := by kernel_rfl
  rw [h]; intro p hp; cases hp
def S_laws_toMail (fu : Nat) (xs : List (D RT den)) : Option (Out RT den) := match xs with | [.agg [.int .i64 a0_1, .int .i64 a0_2, .int .i64 a0_3, .int .i64 a0_4, .int .i64 a0_5, .int .i64 a0_6, .int .i64 a0_7, .bool a0_8, .rs za0_9 .laws_Entry na0_9 fa0_9]] => some ⟨S_impl_Mail, F_laws_toMail fu (⟨a0_1, a0_2, a0_3, a0_4, a0_5, a0_6, a0_7, a0_8, (⟨za0_9, na0_9, fa0_9⟩ : (Sl S_laws_Entry))⟩ : S_laws_Mail), enc_impl_Mail, fun _ => true⟩ | _ => none
theorem hpc_laws_toMail (fu : Nat) : ∀ f xs o, pc_laws_toMail fu f xs = some o → ∀ y, o.x = some y → Good E Try.prog f xs (o.g y) := by
  intro f xs o h
  unfold pc_laws_toMail at h
  split at h
  · exact good_laws_toEntryS fu xs o h
  · cases h
theorem goodv_laws_toMail (fu : Nat) (a_0 : S_laws_Mail) (y : S_impl_Mail) (hy : F_laws_toMail fu a_0 = some y) : Good E Try.prog 17 [(.agg [(.int .i64 a_0.Kind), (.int .i64 a_0.From), (.int .i64 a_0.To), (.int .i64 a_0.Term), (.int .i64 a_0.Index), (.int .i64 a_0.Last), (.int .i64 a_0.Commit), (.bool a_0.Ok), (.rs a_0.Entries.z .laws_Entry a_0.Entries.n a_0.Entries.f)])] (enc_impl_Mail y) :=
  fun_good E_ok (pc_good (hpc_laws_toMail fu)) (fn := Try.f17) (c := body_laws_toMail) (out := out_impl_Mail) (y := y) (by kernel_rfl) (by kernel_rfl) (by kernel_rfl) (lpok_laws_toMail fu) (fun d hd => out_impl_Mail_enc d _ hd) ((ev_laws_toMail fu a_0).trans hy)
theorem good_laws_toMail (fu : Nat) : ∀ xs o, S_laws_toMail fu xs = some o → ∀ y, o.x = some y → Good E Try.prog 17 xs (o.g y) := by
  intro xs o h y hy
  unfold S_laws_toMail at h
  split at h
  · rename_i a0_1 a0_2 a0_3 a0_4 a0_5 a0_6 a0_7 a0_8 za0_9 na0_9 fa0_9
    cases h
    exact goodv_laws_toMail fu (⟨a0_1, a0_2, a0_3, a0_4, a0_5, a0_6, a0_7, a0_8, (⟨za0_9, na0_9, fa0_9⟩ : (Sl S_laws_Entry))⟩ : S_laws_Mail) y hy
  · cases h

/-! spec.l8Zeros -/
def F_spec_l8Zeros (fu : Nat) (m_0 : S_impl_Mail) : Option (Bool) :=
  (bif (m_0.Kind == 1) then (some (m_0.Commit == 0)) else (bif (m_0.Kind == 2) then (((bif (m_0.Index == 0) then (bif (m_0.Last == 0) then (some (m_0.Commit == 0)) else (some false)) else
    (some false)) : Option Bool).bind fun m227 => (some m227)) else (bif (m_0.Kind == 4) then (((bif (m_0.Last == 0) then (some (m_0.Commit == 0)) else (some false)) : Option Bool).bind fun m228 =>
    (some m228)) else (some true))))
def pc_spec_l8Zeros (fu : Nat) : Pc RT den := fun f xs => none
def msk_spec_l8Zeros (b : Nat) : List Nat := match b with | 200005 => [2] | 200007 => [2] | _ => []
def lp_spec_l8Zeros (fu : Nat) : Lp RT den (Bool) := fun b s k => none
theorem ev_spec_l8Zeros (fu : Nat) (m_0 : S_impl_Mail) : evFun E (pc_spec_l8Zeros fu) msk_spec_l8Zeros (lp_spec_l8Zeros fu) out_b 77 [(.agg [(.int .i64 m_0.Kind), (.int .i64 m_0.From), (.int .i64 m_0.To), (.int .i64 m_0.Term), (.int .i64 m_0.Index), (.int .i64 m_0.Last), (.int .i64 m_0.Commit), (.bool m_0.Ok), (.rs m_0.Entries.z .impl_Entry m_0.Entries.n m_0.Entries.f)])] = F_spec_l8Zeros fu m_0 := by kernel_rfl
noncomputable def body_spec_l8Zeros : Code := Try.f77.body.getD .skip
theorem lpok_spec_l8Zeros (fu : Nat) : LpOk E (pc_spec_l8Zeros fu) msk_spec_l8Zeros (lp_spec_l8Zeros fu) (loops 0 body_spec_l8Zeros) := by
  have h : loops 0 body_spec_l8Zeros = [] := by kernel_rfl
  rw [h]; intro p hp; cases hp
def S_spec_l8Zeros (fu : Nat) (xs : List (D RT den)) : Option (Out RT den) := match xs with | [.agg [.int .i64 a0_1, .int .i64 a0_2, .int .i64 a0_3, .int .i64 a0_4, .int .i64 a0_5, .int .i64 a0_6, .int .i64 a0_7, .bool a0_8, .rs za0_9 .impl_Entry na0_9 fa0_9]] => some ⟨Bool, F_spec_l8Zeros fu (⟨a0_1, a0_2, a0_3, a0_4, a0_5, a0_6, a0_7, a0_8, (⟨za0_9, na0_9, fa0_9⟩ : (Sl S_impl_Entry))⟩ : S_impl_Mail), enc_b, fun _ => true⟩ | _ => none
theorem hpc_spec_l8Zeros (fu : Nat) : ∀ f xs o, pc_spec_l8Zeros fu f xs = some o → ∀ y, o.x = some y → Good E Try.prog f xs (o.g y) := by
  intro f xs o h
  cases h
theorem goodv_spec_l8Zeros (fu : Nat) (m_0 : S_impl_Mail) (y : Bool) (hy : F_spec_l8Zeros fu m_0 = some y) : Good E Try.prog 77 [(.agg [(.int .i64 m_0.Kind), (.int .i64 m_0.From), (.int .i64 m_0.To), (.int .i64 m_0.Term), (.int .i64 m_0.Index), (.int .i64 m_0.Last), (.int .i64 m_0.Commit), (.bool m_0.Ok), (.rs m_0.Entries.z .impl_Entry m_0.Entries.n m_0.Entries.f)])] (enc_b y) :=
  fun_good E_ok (pc_good (hpc_spec_l8Zeros fu)) (fn := Try.f77) (c := body_spec_l8Zeros) (out := out_b) (y := y) (by kernel_rfl) (by kernel_rfl) (by kernel_rfl) (lpok_spec_l8Zeros fu) (fun d hd => out_b_enc d _ hd) ((ev_spec_l8Zeros fu m_0).trans hy)
theorem good_spec_l8Zeros (fu : Nat) : ∀ xs o, S_spec_l8Zeros fu xs = some o → ∀ y, o.x = some y → Good E Try.prog 77 xs (o.g y) := by
  intro xs o h y hy
  unfold S_spec_l8Zeros at h
  split at h
  · rename_i a0_1 a0_2 a0_3 a0_4 a0_5 a0_6 a0_7 a0_8 za0_9 na0_9 fa0_9
    cases h
    exact goodv_spec_l8Zeros fu (⟨a0_1, a0_2, a0_3, a0_4, a0_5, a0_6, a0_7, a0_8, (⟨za0_9, na0_9, fa0_9⟩ : (Sl S_impl_Entry))⟩ : S_impl_Mail) y hy
  · cases h

/-! spec.l8Mail -/
def F_spec_l8Mail (fu : Nat) (n_0 : S_impl_Node) (m_1 : S_impl_Mail) : Option (Int) :=
  ((F_spec_l1In fu m_1.Kind 1 4).bind fun y213 => (bif (!y213) then (some 5) else ((((F_spec_l8Id fu n_0 m_1.From).bind fun y214 => (bif (!y214) then (some true) else (bif (m_1.From == n_0.Id) then
    (some true) else (bif (m_1.To != n_0.Id) then (some true) else ((F_spec_l1In fu m_1.Term 1 100000).bind fun y215 => (bif (!y215) then (some true) else ((F_spec_l1In fu m_1.Index 0 40).bind fun y216 =>
    (bif (!y216) then (some true) else ((F_spec_l1In fu m_1.Last 0 m_1.Term).bind fun y217 => (bif (!y217) then (some true) else ((F_spec_l1In fu m_1.Commit 0 40).bind fun y218 =>
    (some (!y218))))))))))))) : Option Bool).bind fun m219 => (bif m219 then (some 3) else ((F_spec_LogFault fu m_1.Entries).bind fun y220 => (bif (y220 != 0) then (some y220) else
    (((bif (decide (((m_1.Entries.n : Nat) : Int) > 0)) then (bif (m_1.Kind != 3) then (some true) else ((F_spec_LastOf fu m_1.Entries).bind fun y221 => (bif (decide (y221.Term > m_1.Term)) then
    (some true) else ((bif (decide (0 ≤ (0 : Int)) && decide ((Int.toNat 0) < m_1.Entries.n)) then some () else none : Option Unit).bind fun _ => (some (decide ((m_1.Entries.f (Int.toNat 0)).Term < m_1.Last))))))) else
    (some false)) : Option Bool).bind fun m222 => (bif m222 then (some 1) else (((bif m_1.Ok then (bif (m_1.Kind != 2) then (bif (m_1.Kind != 4) then (some true) else
    ((F_spec_l8Zeros fu m_1).bind fun y223 => (bif (!y223) then (some true) else (bif (m_1.Index == 0) then (some (m_1.Last != 0)) else (some false))))) else ((F_spec_l8Zeros fu m_1).bind fun y224 =>
    (bif (!y224) then (some true) else (bif (m_1.Index == 0) then (some (m_1.Last != 0)) else (some false))))) else ((F_spec_l8Zeros fu m_1).bind fun y225 => (bif (!y225) then (some true) else
    (bif (m_1.Index == 0) then (some (m_1.Last != 0)) else (some false))))) : Option Bool).bind fun m226 => (bif m226 then (some 1) else (some 0)))))))))))
def pc_spec_l8Mail (fu : Nat) : Pc RT den := fun f xs => match f with | 65 => S_spec_l1In fu xs | 66 => S_spec_l8Id fu xs | 67 => S_spec_LogFault fu xs | 68 => S_spec_LastOf fu xs | 77 => S_spec_l8Zeros fu xs | _ => none
def msk_spec_l8Mail (b : Nat) : List Nat := match b with | 200003 => [58] | 200008 => [92] | 200010 => [119] | _ => []
def lp_spec_l8Mail (fu : Nat) : Lp RT den (Int) := fun b s k => none
theorem ev_spec_l8Mail (fu : Nat) (n_0 : S_impl_Node) (m_1 : S_impl_Mail) : evFun E (pc_spec_l8Mail fu) msk_spec_l8Mail (lp_spec_l8Mail fu) out_i64 39 [(.rptr [(.int .i64 n_0.Id), (.int .i64 n_0.Peers), (.int .i64 n_0.Term), (.int .i64 n_0.Voted), (.rs n_0.Log.z .impl_Entry n_0.Log.n n_0.Log.f), (.int .i64 n_0.Role), (.int .i64 n_0.Commit), (.rs n_0.Votes.z .i64 n_0.Votes.n n_0.Votes.f), (.rs n_0.Next.z .i64 n_0.Next.n n_0.Next.f), (.rs n_0.Match.z .i64 n_0.Match.n n_0.Match.f)]), (.agg [(.int .i64 m_1.Kind), (.int .i64 m_1.From), (.int .i64 m_1.To), (.int .i64 m_1.Term), (.int .i64 m_1.Index), (.int .i64 m_1.Last), (.int .i64 m_1.Commit), (.bool m_1.Ok), (.rs m_1.Entries.z .impl_Entry m_1.Entries.n m_1.Entries.f)])] = F_spec_l8Mail fu n_0 m_1 := by kernel_rfl
noncomputable def body_spec_l8Mail : Code := Try.f39.body.getD .skip
theorem lpok_spec_l8Mail (fu : Nat) : LpOk E (pc_spec_l8Mail fu) msk_spec_l8Mail (lp_spec_l8Mail fu) (loops 0 body_spec_l8Mail) := by
  have h : loops 0 body_spec_l8Mail = [] := by kernel_rfl
  rw [h]; intro p hp; cases hp
def S_spec_l8Mail (fu : Nat) (xs : List (D RT den)) : Option (Out RT den) := match xs with | [.rptr [.int .i64 a0_1, .int .i64 a0_2, .int .i64 a0_3, .int .i64 a0_4, .rs za0_5 .impl_Entry na0_5 fa0_5, .int .i64 a0_6, .int .i64 a0_7, .rs za0_8 .i64 na0_8 fa0_8, .rs za0_9 .i64 na0_9 fa0_9, .rs za0_10 .i64 na0_10 fa0_10], .agg [.int .i64 a1_1, .int .i64 a1_2, .int .i64 a1_3, .int .i64 a1_4, .int .i64 a1_5, .int .i64 a1_6, .int .i64 a1_7, .bool a1_8, .rs za1_9 .impl_Entry na1_9 fa1_9]] => some ⟨Int, F_spec_l8Mail fu (⟨a0_1, a0_2, a0_3, a0_4, (⟨za0_5, na0_5, fa0_5⟩ : (Sl S_impl_Entry)), a0_6, a0_7, (⟨za0_8, na0_8, fa0_8⟩ : (Sl Int)), (⟨za0_9, na0_9, fa0_9⟩ : (Sl Int)), (⟨za0_10, na0_10, fa0_10⟩ : (Sl Int))⟩ : S_impl_Node) (⟨a1_1, a1_2, a1_3, a1_4, a1_5, a1_6, a1_7, a1_8, (⟨za1_9, na1_9, fa1_9⟩ : (Sl S_impl_Entry))⟩ : S_impl_Mail), enc_i64, fun _ => true⟩ | _ => none
theorem hpc_spec_l8Mail (fu : Nat) : ∀ f xs o, pc_spec_l8Mail fu f xs = some o → ∀ y, o.x = some y → Good E Try.prog f xs (o.g y) := by
  intro f xs o h
  unfold pc_spec_l8Mail at h
  split at h
  · exact good_spec_l1In fu xs o h
  · exact good_spec_l8Id fu xs o h
  · exact good_spec_LogFault fu xs o h
  · exact good_spec_LastOf fu xs o h
  · exact good_spec_l8Zeros fu xs o h
  · cases h
theorem goodv_spec_l8Mail (fu : Nat) (n_0 : S_impl_Node) (m_1 : S_impl_Mail) (y : Int) (hy : F_spec_l8Mail fu n_0 m_1 = some y) : Good E Try.prog 39 [(.rptr [(.int .i64 n_0.Id), (.int .i64 n_0.Peers), (.int .i64 n_0.Term), (.int .i64 n_0.Voted), (.rs n_0.Log.z .impl_Entry n_0.Log.n n_0.Log.f), (.int .i64 n_0.Role), (.int .i64 n_0.Commit), (.rs n_0.Votes.z .i64 n_0.Votes.n n_0.Votes.f), (.rs n_0.Next.z .i64 n_0.Next.n n_0.Next.f), (.rs n_0.Match.z .i64 n_0.Match.n n_0.Match.f)]), (.agg [(.int .i64 m_1.Kind), (.int .i64 m_1.From), (.int .i64 m_1.To), (.int .i64 m_1.Term), (.int .i64 m_1.Index), (.int .i64 m_1.Last), (.int .i64 m_1.Commit), (.bool m_1.Ok), (.rs m_1.Entries.z .impl_Entry m_1.Entries.n m_1.Entries.f)])] (enc_i64 y) :=
  fun_good E_ok (pc_good (hpc_spec_l8Mail fu)) (fn := Try.f39) (c := body_spec_l8Mail) (out := out_i64) (y := y) (by kernel_rfl) (by kernel_rfl) (by kernel_rfl) (lpok_spec_l8Mail fu) (fun d hd => out_i64_enc d _ hd) ((ev_spec_l8Mail fu n_0 m_1).trans hy)
theorem good_spec_l8Mail (fu : Nat) : ∀ xs o, S_spec_l8Mail fu xs = some o → ∀ y, o.x = some y → Good E Try.prog 39 xs (o.g y) := by
  intro xs o h y hy
  unfold S_spec_l8Mail at h
  split at h
  · rename_i a0_1 a0_2 a0_3 a0_4 za0_5 na0_5 fa0_5 a0_6 a0_7 za0_8 na0_8 fa0_8 za0_9 na0_9 fa0_9 za0_10 na0_10 fa0_10 a1_1 a1_2 a1_3 a1_4 a1_5 a1_6 a1_7 a1_8 za1_9 na1_9 fa1_9
    cases h
    exact goodv_spec_l8Mail fu (⟨a0_1, a0_2, a0_3, a0_4, (⟨za0_5, na0_5, fa0_5⟩ : (Sl S_impl_Entry)), a0_6, a0_7, (⟨za0_8, na0_8, fa0_8⟩ : (Sl Int)), (⟨za0_9, na0_9, fa0_9⟩ : (Sl Int)), (⟨za0_10, na0_10, fa0_10⟩ : (Sl Int))⟩ : S_impl_Node) (⟨a1_1, a1_2, a1_3, a1_4, a1_5, a1_6, a1_7, a1_8, (⟨za1_9, na1_9, fa1_9⟩ : (Sl S_impl_Entry))⟩ : S_impl_Mail) y hy
  · cases h

/-! spec.MailFault -/
def F_spec_MailFault (fu : Nat) (n_0 : S_impl_Node) (m_1 : S_impl_Mail) : Option (Int) :=
  ((F_spec_l8Fault fu n_0).bind fun y211 => (bif (y211 != 0) then (some y211) else ((F_spec_l8Mail fu n_0 m_1).bind fun y212 => (some y212))))
def pc_spec_MailFault (fu : Nat) : Pc RT den := fun f xs => match f with | 33 => S_spec_l8Fault fu xs | 39 => S_spec_l8Mail fu xs | _ => none
def msk_spec_MailFault (b : Nat) : List Nat := []
def lp_spec_MailFault (fu : Nat) : Lp RT den (Int) := fun b s k => none
theorem ev_spec_MailFault (fu : Nat) (n_0 : S_impl_Node) (m_1 : S_impl_Mail) : evFun E (pc_spec_MailFault fu) msk_spec_MailFault (lp_spec_MailFault fu) out_i64 16 [(.agg [(.int .i64 n_0.Id), (.int .i64 n_0.Peers), (.int .i64 n_0.Term), (.int .i64 n_0.Voted), (.rs n_0.Log.z .impl_Entry n_0.Log.n n_0.Log.f), (.int .i64 n_0.Role), (.int .i64 n_0.Commit), (.rs n_0.Votes.z .i64 n_0.Votes.n n_0.Votes.f), (.rs n_0.Next.z .i64 n_0.Next.n n_0.Next.f), (.rs n_0.Match.z .i64 n_0.Match.n n_0.Match.f)]), (.agg [(.int .i64 m_1.Kind), (.int .i64 m_1.From), (.int .i64 m_1.To), (.int .i64 m_1.Term), (.int .i64 m_1.Index), (.int .i64 m_1.Last), (.int .i64 m_1.Commit), (.bool m_1.Ok), (.rs m_1.Entries.z .impl_Entry m_1.Entries.n m_1.Entries.f)])] = F_spec_MailFault fu n_0 m_1 := by kernel_rfl
noncomputable def body_spec_MailFault : Code := Try.f16.body.getD .skip
theorem lpok_spec_MailFault (fu : Nat) : LpOk E (pc_spec_MailFault fu) msk_spec_MailFault (lp_spec_MailFault fu) (loops 0 body_spec_MailFault) := by
  have h : loops 0 body_spec_MailFault = [] := by kernel_rfl
  rw [h]; intro p hp; cases hp
def S_spec_MailFault (fu : Nat) (xs : List (D RT den)) : Option (Out RT den) := match xs with | [.agg [.int .i64 a0_1, .int .i64 a0_2, .int .i64 a0_3, .int .i64 a0_4, .rs za0_5 .impl_Entry na0_5 fa0_5, .int .i64 a0_6, .int .i64 a0_7, .rs za0_8 .i64 na0_8 fa0_8, .rs za0_9 .i64 na0_9 fa0_9, .rs za0_10 .i64 na0_10 fa0_10], .agg [.int .i64 a1_1, .int .i64 a1_2, .int .i64 a1_3, .int .i64 a1_4, .int .i64 a1_5, .int .i64 a1_6, .int .i64 a1_7, .bool a1_8, .rs za1_9 .impl_Entry na1_9 fa1_9]] => some ⟨Int, F_spec_MailFault fu (⟨a0_1, a0_2, a0_3, a0_4, (⟨za0_5, na0_5, fa0_5⟩ : (Sl S_impl_Entry)), a0_6, a0_7, (⟨za0_8, na0_8, fa0_8⟩ : (Sl Int)), (⟨za0_9, na0_9, fa0_9⟩ : (Sl Int)), (⟨za0_10, na0_10, fa0_10⟩ : (Sl Int))⟩ : S_impl_Node) (⟨a1_1, a1_2, a1_3, a1_4, a1_5, a1_6, a1_7, a1_8, (⟨za1_9, na1_9, fa1_9⟩ : (Sl S_impl_Entry))⟩ : S_impl_Mail), enc_i64, fun _ => true⟩ | _ => none
theorem hpc_spec_MailFault (fu : Nat) : ∀ f xs o, pc_spec_MailFault fu f xs = some o → ∀ y, o.x = some y → Good E Try.prog f xs (o.g y) := by
  intro f xs o h
  unfold pc_spec_MailFault at h
  split at h
  · exact good_spec_l8Fault fu xs o h
  · exact good_spec_l8Mail fu xs o h
  · cases h
theorem goodv_spec_MailFault (fu : Nat) (n_0 : S_impl_Node) (m_1 : S_impl_Mail) (y : Int) (hy : F_spec_MailFault fu n_0 m_1 = some y) : Good E Try.prog 16 [(.agg [(.int .i64 n_0.Id), (.int .i64 n_0.Peers), (.int .i64 n_0.Term), (.int .i64 n_0.Voted), (.rs n_0.Log.z .impl_Entry n_0.Log.n n_0.Log.f), (.int .i64 n_0.Role), (.int .i64 n_0.Commit), (.rs n_0.Votes.z .i64 n_0.Votes.n n_0.Votes.f), (.rs n_0.Next.z .i64 n_0.Next.n n_0.Next.f), (.rs n_0.Match.z .i64 n_0.Match.n n_0.Match.f)]), (.agg [(.int .i64 m_1.Kind), (.int .i64 m_1.From), (.int .i64 m_1.To), (.int .i64 m_1.Term), (.int .i64 m_1.Index), (.int .i64 m_1.Last), (.int .i64 m_1.Commit), (.bool m_1.Ok), (.rs m_1.Entries.z .impl_Entry m_1.Entries.n m_1.Entries.f)])] (enc_i64 y) :=
  fun_good E_ok (pc_good (hpc_spec_MailFault fu)) (fn := Try.f16) (c := body_spec_MailFault) (out := out_i64) (y := y) (by kernel_rfl) (by kernel_rfl) (by kernel_rfl) (lpok_spec_MailFault fu) (fun d hd => out_i64_enc d _ hd) ((ev_spec_MailFault fu n_0 m_1).trans hy)
theorem good_spec_MailFault (fu : Nat) : ∀ xs o, S_spec_MailFault fu xs = some o → ∀ y, o.x = some y → Good E Try.prog 16 xs (o.g y) := by
  intro xs o h y hy
  unfold S_spec_MailFault at h
  split at h
  · rename_i a0_1 a0_2 a0_3 a0_4 za0_5 na0_5 fa0_5 a0_6 a0_7 za0_8 na0_8 fa0_8 za0_9 na0_9 fa0_9 za0_10 na0_10 fa0_10 a1_1 a1_2 a1_3 a1_4 a1_5 a1_6 a1_7 a1_8 za1_9 na1_9 fa1_9
    cases h
    exact goodv_spec_MailFault fu (⟨a0_1, a0_2, a0_3, a0_4, (⟨za0_5, na0_5, fa0_5⟩ : (Sl S_impl_Entry)), a0_6, a0_7, (⟨za0_8, na0_8, fa0_8⟩ : (Sl Int)), (⟨za0_9, na0_9, fa0_9⟩ : (Sl Int)), (⟨za0_10, na0_10, fa0_10⟩ : (Sl Int))⟩ : S_impl_Node) (⟨a1_1, a1_2, a1_3, a1_4, a1_5, a1_6, a1_7, a1_8, (⟨za1_9, na1_9, fa1_9⟩ : (Sl S_impl_Entry))⟩ : S_impl_Mail) y hy
  · cases h

/-! impl.MailFault -/
def F_impl_MailFault (fu : Nat) (t_0 : S_impl_Node) (o_1 : S_impl_Mail) : Option (Int) :=
  ((F_impl_NodeFault fu t_0).bind fun y229 => (bif (y229 != 0) then (some y229) else ((F_impl_in fu o_1.Kind 1 4).bind fun y230 => (bif (!y230) then (some 5) else
    ((((F_impl_Node_isId fu t_0 o_1.From).bind fun y231 => (bif (!y231) then (some true) else (bif (o_1.From == t_0.Id) then (some true) else (bif (o_1.To != t_0.Id) then (some true) else
    ((F_impl_in fu o_1.Term 1 100000).bind fun y232 => (some (!y232))))))) : Option Bool).bind fun m233 => (bif m233 then (some 3) else ((((F_impl_in fu o_1.Index 0 40).bind fun y234 =>
    (bif (!y234) then (some true) else ((F_impl_in fu o_1.Last 0 o_1.Term).bind fun y235 => (bif (!y235) then (some true) else ((F_impl_in fu o_1.Commit 0 40).bind fun y236 => (some (!y236))))))) : Option Bool).bind fun m237 =>
    (bif m237 then (some 3) else ((F_impl_LogFault fu o_1.Entries).bind fun y238 => (bif (y238 != 0) then (some y238) else (((bif (decide (((o_1.Entries.n : Nat) : Int) > 0)) then
    (bif (o_1.Kind != 3) then (some true) else ((F_impl_last fu o_1.Entries).bind fun y239 => (bif (decide (y239.Term > o_1.Term)) then (some true) else ((bif (decide (0 ≤ (0 : Int)) &&
    decide ((Int.toNat 0) < o_1.Entries.n)) then some () else none : Option Unit).bind fun _ => (some (decide ((o_1.Entries.f (Int.toNat 0)).Term < o_1.Last))))))) else (some false)) : Option Bool).bind fun m240 =>
    (((bif m240 then (some true) else (bif o_1.Ok then (bif (o_1.Kind != 2) then (some (o_1.Kind != 4)) else (some false)) else (some false))) : Option Bool).bind fun m241 => (bif (o_1.Kind == 2) then
    (((bif m241 then (some true) else (bif (o_1.Index != 0) then (some true) else (bif (o_1.Last != 0) then (some true) else (some (o_1.Commit != 0))))) : Option Bool).bind fun m242 =>
    (((bif m242 then (some true) else (bif (o_1.Index == 0) then (some (o_1.Last != 0)) else (some false))) : Option Bool).bind fun m243 => (bif m243 then (some 1) else (some 0)))) else
    (bif (o_1.Kind == 1) then (((bif m241 then (some true) else (some (o_1.Commit != 0))) : Option Bool).bind fun m244 => (((bif m244 then (some true) else (bif (o_1.Index == 0) then
    (some (o_1.Last != 0)) else (some false))) : Option Bool).bind fun m245 => (bif m245 then (some 1) else (some 0)))) else (bif (o_1.Kind == 4) then (((bif m241 then (some true) else
    (bif (o_1.Last != 0) then (some true) else (some (o_1.Commit != 0)))) : Option Bool).bind fun m246 => (((bif m246 then (some true) else (bif (o_1.Index == 0) then (some (o_1.Last != 0)) else
    (some false))) : Option Bool).bind fun m247 => (bif m247 then (some 1) else (some 0)))) else (((bif m241 then (some true) else (bif (o_1.Index == 0) then (some (o_1.Last != 0)) else
    (some false))) : Option Bool).bind fun m248 => (bif m248 then (some 1) else (some 0))))))))))))))))))
def pc_impl_MailFault (fu : Nat) : Pc RT den := fun f xs => match f with | 36 => S_impl_NodeFault fu xs | 40 => S_impl_in fu xs | 41 => S_impl_Node_isId fu xs | 42 => S_impl_LogFault fu xs | 43 => S_impl_last fu xs | _ => none
def msk_impl_MailFault (b : Nat) : List Nat := match b with | 200006 => [18] | 200008 => [43] | 200013 => [7] | 200014 => [7] | 200017 => [7] | 200019 => [7] | 200021 => [7] | 200022 => [162] | _ => []
def lp_impl_MailFault (fu : Nat) : Lp RT den (Int) := fun b s k => none
theorem ev_impl_MailFault (fu : Nat) (t_0 : S_impl_Node) (o_1 : S_impl_Mail) : evFun E (pc_impl_MailFault fu) msk_impl_MailFault (lp_impl_MailFault fu) out_i64 18 [(.agg [(.int .i64 t_0.Id), (.int .i64 t_0.Peers), (.int .i64 t_0.Term), (.int .i64 t_0.Voted), (.rs t_0.Log.z .impl_Entry t_0.Log.n t_0.Log.f), (.int .i64 t_0.Role), (.int .i64 t_0.Commit), (.rs t_0.Votes.z .i64 t_0.Votes.n t_0.Votes.f), (.rs t_0.Next.z .i64 t_0.Next.n t_0.Next.f), (.rs t_0.Match.z .i64 t_0.Match.n t_0.Match.f)]), (.agg [(.int .i64 o_1.Kind), (.int .i64 o_1.From), (.int .i64 o_1.To), (.int .i64 o_1.Term), (.int .i64 o_1.Index), (.int .i64 o_1.Last), (.int .i64 o_1.Commit), (.bool o_1.Ok), (.rs o_1.Entries.z .impl_Entry o_1.Entries.n o_1.Entries.f)])] = F_impl_MailFault fu t_0 o_1 := by kernel_rfl
noncomputable def body_impl_MailFault : Code := Try.f18.body.getD .skip
theorem lpok_impl_MailFault (fu : Nat) : LpOk E (pc_impl_MailFault fu) msk_impl_MailFault (lp_impl_MailFault fu) (loops 0 body_impl_MailFault) := by
  have h : loops 0 body_impl_MailFault = [] := by kernel_rfl
  rw [h]; intro p hp; cases hp
def S_impl_MailFault (fu : Nat) (xs : List (D RT den)) : Option (Out RT den) := match xs with | [.agg [.int .i64 a0_1, .int .i64 a0_2, .int .i64 a0_3, .int .i64 a0_4, .rs za0_5 .impl_Entry na0_5 fa0_5, .int .i64 a0_6, .int .i64 a0_7, .rs za0_8 .i64 na0_8 fa0_8, .rs za0_9 .i64 na0_9 fa0_9, .rs za0_10 .i64 na0_10 fa0_10], .agg [.int .i64 a1_1, .int .i64 a1_2, .int .i64 a1_3, .int .i64 a1_4, .int .i64 a1_5, .int .i64 a1_6, .int .i64 a1_7, .bool a1_8, .rs za1_9 .impl_Entry na1_9 fa1_9]] => some ⟨Int, F_impl_MailFault fu (⟨a0_1, a0_2, a0_3, a0_4, (⟨za0_5, na0_5, fa0_5⟩ : (Sl S_impl_Entry)), a0_6, a0_7, (⟨za0_8, na0_8, fa0_8⟩ : (Sl Int)), (⟨za0_9, na0_9, fa0_9⟩ : (Sl Int)), (⟨za0_10, na0_10, fa0_10⟩ : (Sl Int))⟩ : S_impl_Node) (⟨a1_1, a1_2, a1_3, a1_4, a1_5, a1_6, a1_7, a1_8, (⟨za1_9, na1_9, fa1_9⟩ : (Sl S_impl_Entry))⟩ : S_impl_Mail), enc_i64, fun _ => true⟩ | _ => none
theorem hpc_impl_MailFault (fu : Nat) : ∀ f xs o, pc_impl_MailFault fu f xs = some o → ∀ y, o.x = some y → Good E Try.prog f xs (o.g y) := by
  intro f xs o h
  unfold pc_impl_MailFault at h
  split at h
  · exact good_impl_NodeFault fu xs o h
  · exact good_impl_in fu xs o h
  · exact good_impl_Node_isId fu xs o h
  · exact good_impl_LogFault fu xs o h
  · exact good_impl_last fu xs o h
  · cases h
theorem goodv_impl_MailFault (fu : Nat) (t_0 : S_impl_Node) (o_1 : S_impl_Mail) (y : Int) (hy : F_impl_MailFault fu t_0 o_1 = some y) : Good E Try.prog 18 [(.agg [(.int .i64 t_0.Id), (.int .i64 t_0.Peers), (.int .i64 t_0.Term), (.int .i64 t_0.Voted), (.rs t_0.Log.z .impl_Entry t_0.Log.n t_0.Log.f), (.int .i64 t_0.Role), (.int .i64 t_0.Commit), (.rs t_0.Votes.z .i64 t_0.Votes.n t_0.Votes.f), (.rs t_0.Next.z .i64 t_0.Next.n t_0.Next.f), (.rs t_0.Match.z .i64 t_0.Match.n t_0.Match.f)]), (.agg [(.int .i64 o_1.Kind), (.int .i64 o_1.From), (.int .i64 o_1.To), (.int .i64 o_1.Term), (.int .i64 o_1.Index), (.int .i64 o_1.Last), (.int .i64 o_1.Commit), (.bool o_1.Ok), (.rs o_1.Entries.z .impl_Entry o_1.Entries.n o_1.Entries.f)])] (enc_i64 y) :=
  fun_good E_ok (pc_good (hpc_impl_MailFault fu)) (fn := Try.f18) (c := body_impl_MailFault) (out := out_i64) (y := y) (by kernel_rfl) (by kernel_rfl) (by kernel_rfl) (lpok_impl_MailFault fu) (fun d hd => out_i64_enc d _ hd) ((ev_impl_MailFault fu t_0 o_1).trans hy)
theorem good_impl_MailFault (fu : Nat) : ∀ xs o, S_impl_MailFault fu xs = some o → ∀ y, o.x = some y → Good E Try.prog 18 xs (o.g y) := by
  intro xs o h y hy
  unfold S_impl_MailFault at h
  split at h
  · rename_i a0_1 a0_2 a0_3 a0_4 za0_5 na0_5 fa0_5 a0_6 a0_7 za0_8 na0_8 fa0_8 za0_9 na0_9 fa0_9 za0_10 na0_10 fa0_10 a1_1 a1_2 a1_3 a1_4 a1_5 a1_6 a1_7 a1_8 za1_9 na1_9 fa1_9
    cases h
    exact goodv_impl_MailFault fu (⟨a0_1, a0_2, a0_3, a0_4, (⟨za0_5, na0_5, fa0_5⟩ : (Sl S_impl_Entry)), a0_6, a0_7, (⟨za0_8, na0_8, fa0_8⟩ : (Sl Int)), (⟨za0_9, na0_9, fa0_9⟩ : (Sl Int)), (⟨za0_10, na0_10, fa0_10⟩ : (Sl Int))⟩ : S_impl_Node) (⟨a1_1, a1_2, a1_3, a1_4, a1_5, a1_6, a1_7, a1_8, (⟨za1_9, na1_9, fa1_9⟩ : (Sl S_impl_Entry))⟩ : S_impl_Mail) y hy
  · cases h
end Go.Proofs.Ytgdlionhnifajaa.Pc
