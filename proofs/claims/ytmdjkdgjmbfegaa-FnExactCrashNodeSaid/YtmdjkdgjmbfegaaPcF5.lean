/- The functions' evaluated forms, each a proved summary. Conditions: none. -/
import Derived.Test.YtmdjkdgjmbfegaaPcF4
namespace Go.Proofs.Ytmdjkdgjmbfegaa.Pc
open Go Go.RowKit Go.Proofs Vm
set_option linter.unusedVariables false
set_option linter.unusedSimpArgs false
set_option maxRecDepth 100000
/-! impl.NodeFault -/
def F_impl_NodeFault_B1 {ρ : Type} (fu : Nat) (t75_0 : (Sl Int)) (t76_1 : Int) (o0_3 : Int) (o0_4 : Int) (o0_5 : Int) (o0_6 : Int) (o0_7 : (Sl S_impl_Entry)) (o0_8 : Int) (o0_9 : Int) (o0_10 : (Sl Int)) (o0_11 : (Sl Int)) (o0_12 : (Sl Int)) (o1_13 : Int) (k0 : Option ρ) (k1 : Option ρ) (t77_2 : Int) (go : Int → Option ρ) : Option ρ :=
  (bif (decide (t77_2 < t76_1)) then ((bif (decide (0 ≤ t77_2) && decide ((Int.toNat t77_2) < t75_0.n)) then some () else none : Option Unit).bind fun _ => ((((F_impl_Node_isId fu (⟨o0_3,
    o0_4, o0_5, o0_6, o0_7, o0_8, o0_9, o0_10, o0_11, o0_12⟩ : S_impl_Node) (t75_0.f (Int.toNat t77_2))).bind fun y278 => (bif (!y278) then (some true) else (bif (decide (t77_2 > 0)) then
    ((bif (decide (0 ≤ (IntKind.wrap .i64 (t77_2 - 1))) && decide ((Int.toNat (IntKind.wrap .i64 (t77_2 - 1))) < o0_10.n)) then some () else none : Option Unit).bind fun _ => (some (decide ((t75_0.f (Int.toNat t77_2)) ≤ (o0_10.f (Int.toNat (IntKind.wrap .i64 (t77_2 - 1)))))))) else
    (some false)))) : Option Bool).bind fun m279 => (bif m279 then k0 else (go (IntKind.wrap .i64 (t77_2 + 1)))))) else k1)
def F_impl_NodeFault (fu : Nat) (t_0 : S_impl_Node) : Option (Int) :=
  ((((F_impl_in fu t_0.Peers 1 5).bind fun y266 => (bif (!y266) then (some true) else ((F_impl_Node_isId fu t_0 t_0.Id).bind fun y267 => (bif (!y267) then (some true) else
    ((F_impl_in fu t_0.Term 0 100000).bind fun y268 => (bif (!y268) then (some true) else (bif (t_0.Voted != (-1)) then ((F_impl_Node_isId fu t_0 t_0.Voted).bind fun y269 => (bif (!y269) then
    (some true) else ((F_impl_in fu t_0.Role 0 2).bind fun y270 => (some (!y270))))) else ((F_impl_in fu t_0.Role 0 2).bind fun y271 => (some (!y271)))))))))) : Option Bool).bind fun m272 =>
    (bif m272 then (some 3) else ((F_impl_LogFault fu t_0.Log).bind fun y273 => (bif (y273 != 0) then (some y273) else ((F_impl_size_impl_Entry fu t_0.Log).bind fun y274 =>
    ((F_impl_last fu t_0.Log).bind fun y275 => (bif (decide (y275.Term > t_0.Term)) then (some 1) else ((F_impl_in fu t_0.Commit 0 y274).bind fun y276 => (bif (!y276) then (some 3) else
    (((bif (decide (((t_0.Votes.n : Nat) : Int) > 0)) then (some (t_0.Role != 1)) else (some false)) : Option Bool).bind fun m277 => (bif m277 then (some 1) else (L (fun w1 go1 =>
    F_impl_NodeFault_B1 fu t_0.Votes ((t_0.Votes.n : Nat) : Int) t_0.Id t_0.Peers t_0.Term t_0.Voted t_0.Log t_0.Role t_0.Commit t_0.Votes t_0.Next t_0.Match y274 (some 1) (bif (t_0.Role == 2) then
    ((((F_impl_size_int64 fu t_0.Next).bind fun y280 => (bif (y280 != t_0.Peers) then (some true) else ((F_impl_size_int64 fu t_0.Match).bind fun y281 => (some (y281 != t_0.Peers))))) : Option Bool).bind fun m282 =>
    (bif m282 then (some 1) else ((F_slices_ContainsFunc_int64_int64_w_impl_NodeFault_c1 fu t_0.Next y274).bind fun y283 => (bif y283 then (some 3) else
    ((F_slices_ContainsFunc_int64_int64_w_impl_NodeFault_c2 fu t_0.Match y274).bind fun y284 => (bif y284 then (some 3) else (((bif (t_0.Role != 0) then (bif (t_0.Voted != t_0.Id) then
    (some true) else (some (t_0.Term == 0))) else (some false)) : Option Bool).bind fun m285 => (bif m285 then (some 1) else (some 0))))))))) else ((((F_impl_size_int64 fu t_0.Next).bind fun y286 =>
    (bif (y286 != 0) then (some true) else ((F_impl_size_int64 fu t_0.Match).bind fun y287 => (some (y287 != 0))))) : Option Bool).bind fun m288 => (bif m288 then (some 1) else
    ((F_slices_ContainsFunc_int64_int64_w_impl_NodeFault_c1 fu t_0.Next y274).bind fun y289 => (bif y289 then (some 3) else ((F_slices_ContainsFunc_int64_int64_w_impl_NodeFault_c2 fu t_0.Match y274).bind fun y290 =>
    (bif y290 then (some 3) else (((bif (t_0.Role != 0) then (bif (t_0.Voted != t_0.Id) then (some true) else (some (t_0.Term == 0))) else (some false)) : Option Bool).bind fun m291 =>
    (bif m291 then (some 1) else (some 0)))))))))) w1 go1) fu (0 : Int)))))))))))))
def pcf_impl_NodeFault (fu : Nat) (f : Nat) (xs : List (D RT den)) : Option (Out RT den) := match f with | 19 => S_impl_LogFault fu xs | 60 => S_impl_last fu xs | 62 => S_impl_in fu xs | 80 => S_impl_size_impl_Entry fu xs | 92 => S_impl_Node_isId fu xs | 93 => S_impl_size_int64 fu xs | 94 => (match S_slices_ContainsFunc_int64_int64_w_impl_NodeFault_c1 fu xs with | some o => some o | none => S_slices_ContainsFunc_int64_int64_w_impl_NodeFault_c2 fu xs) | _ => none
def pcx_impl_NodeFault (fu : Nat) (f : Nat) (xs : List (D RT den)) (ins : List (Ob RT den)) : Option (OutX RT den) := none
def pc_impl_NodeFault (fu : Nat) : Pc RT den := ⟨pcf_impl_NodeFault fu, fun _ => false, fun _ => false, pcx_impl_NodeFault fu⟩
def msk_impl_NodeFault (b : Nat) : List Nat := match b with | 1 => [0, 2, 3, 5, 6, 7, 8, 9, 10, 11, 12, 13, 14, 15, 16, 17, 18, 19, 20, 21, 22, 23, 24, 25, 26, 27, 28, 29, 30, 31, 32, 33, 34, 35, 36, 37, 38, 39, 40, 41, 42, 43, 44, 45, 46, 47, 48, 49, 50, 51, 52, 53, 54, 55, 56, 57, 58, 59, 60, 61, 62, 63, 64, 65, 66, 67, 68, 69, 70, 71, 72, 73, 74, 78, 79, 80, 81, 82, 83, 84, 85, 86, 87, 88, 89, 90, 91, 92, 93, 94, 95, 96, 97, 98, 99, 100, 101, 102, 103, 104, 105, 106, 107, 108, 109, 110, 111, 112, 113, 114, 115, 116, 117, 118, 119, 120, 121, 122, 123, 124, 125, 126, 127, 128, 129, 130, 131, 132, 133, 134, 135, 136, 137, 138, 139, 140, 141, 142, 143] | 100001 => [0, 3, 5, 6, 7, 8, 9, 10, 11, 12, 13, 14, 15, 16, 17, 18, 19, 20, 21, 22, 23, 24, 25, 26, 27, 28, 29, 30, 31, 32, 33, 34, 35, 36, 37, 38, 39, 40, 41, 42, 43, 44, 45, 46, 47, 48, 49, 50, 51, 52, 53, 54, 55, 56, 57, 58, 59, 60, 61, 62, 63, 64, 65, 66, 67, 68, 69, 70, 71, 72, 73, 74, 75, 76, 77, 78, 79, 80, 81, 82, 83, 84, 85, 86, 87, 88, 89, 90, 91, 92, 93, 94, 95, 96, 97, 98, 99, 100, 101, 102, 103, 104, 105, 106, 107, 108, 109, 110, 111, 112, 113, 114, 115, 116, 117, 118, 119, 120, 121, 122, 123, 124, 125, 126, 127, 128, 129, 130, 131, 132, 133, 134, 135, 136, 137, 138, 139, 140, 141, 142, 143] | 200001 => [40] | 200011 => [64] | 200016 => [98] | 200022 => [105] | 200028 => [128] | _ => []
def ps_impl_NodeFault_1 : List (Pat RT) := [.flat .dead, .flat (.ref 0 0), .flat .dead, .flat .dead, .flat (.ref 1 0), .flat .dead, .flat .dead, .flat .dead, .flat .dead, .flat .dead, .flat .dead, .flat .dead, .flat .dead, .flat .dead, .flat .dead, .flat .dead, .flat .dead, .flat .dead, .flat .dead, .flat .dead, .flat .dead, .flat .dead, .flat .dead, .flat .dead, .flat .dead, .flat .dead, .flat .dead, .flat .dead, .flat .dead, .flat .dead, .flat .dead, .flat .dead, .flat .dead, .flat .dead, .flat .dead, .flat .dead, .flat .dead, .flat .dead, .flat .dead, .flat .dead, .flat .dead, .flat .dead, .flat .dead, .flat .dead, .flat .dead, .flat .dead, .flat .dead, .flat .dead, .flat .dead, .flat .dead, .flat .dead, .flat .dead, .flat .dead, .flat .dead, .flat .dead, .flat .dead, .flat .dead, .flat .dead, .flat .dead, .flat .dead, .flat .dead, .flat .dead, .flat .dead, .flat .dead, .flat .dead, .flat .dead, .flat .dead, .flat .dead, .flat .dead, .flat .dead, .flat .dead, .flat .dead, .flat .dead, .flat .dead, .flat .dead, .flat (.rs .i64), .flat (.int .i64), .flat (.int .i64), .flat .dead, .flat .dead, .flat .dead, .flat .dead, .flat .dead, .flat .dead, .flat .dead, .flat .dead, .flat .dead, .flat .dead, .flat .dead, .flat .dead, .flat .dead, .flat .dead, .flat .dead, .flat .dead, .flat .dead, .flat .dead, .flat .dead, .flat .dead, .flat .dead, .flat .dead, .flat .dead, .flat .dead, .flat .dead, .flat .dead, .flat .dead, .flat .dead, .flat .dead, .flat .dead, .flat .dead, .flat .dead, .flat .dead, .flat .dead, .flat .dead, .flat .dead, .flat .dead, .flat .dead, .flat .dead, .flat .dead, .flat .dead, .flat .dead, .flat .dead, .flat .dead, .flat .dead, .flat .dead, .flat .dead, .flat .dead, .flat .dead, .flat .dead, .flat .dead, .flat .dead, .flat .dead, .flat .dead, .flat .dead, .flat .dead, .flat .dead, .flat .dead, .flat .dead, .flat .dead, .flat .dead, .flat .dead, .flat .dead, .flat .dead, .flat .dead, .flat .dead]
def os_impl_NodeFault_1 : List (OP RT) := [.box [(.int .i64), (.int .i64), (.int .i64), (.int .i64), (.rs .impl_Entry), (.int .i64), (.int .i64), (.rs .i64), (.rs .i64), (.rs .i64)], .box [(.int .i64)]]
def conv_impl_NodeFault_1 (r : Raw den ps_impl_NodeFault_1 os_impl_NodeFault_1) : ((Sl Int) × Int × Int × Int × Int × Int × (Sl S_impl_Entry) × Int × Int × (Sl Int) × (Sl Int) × (Sl Int) × Int) × (Int) := ((r.1.2.2.2.2.2.2.2.2.2.2.2.2.2.2.2.2.2.2.2.2.2.2.2.2.2.2.2.2.2.2.2.2.2.2.2.2.2.2.2.2.2.2.2.2.2.2.2.2.2.2.2.2.2.2.2.2.2.2.2.2.2.2.2.2.2.2.2.2.2.2.2.2.2.2.2.1, r.1.2.2.2.2.2.2.2.2.2.2.2.2.2.2.2.2.2.2.2.2.2.2.2.2.2.2.2.2.2.2.2.2.2.2.2.2.2.2.2.2.2.2.2.2.2.2.2.2.2.2.2.2.2.2.2.2.2.2.2.2.2.2.2.2.2.2.2.2.2.2.2.2.2.2.2.2.1, r.2.1.1, r.2.1.2.1, r.2.1.2.2.1, r.2.1.2.2.2.1, r.2.1.2.2.2.2.1, r.2.1.2.2.2.2.2.1, r.2.1.2.2.2.2.2.2.1, r.2.1.2.2.2.2.2.2.2.1, r.2.1.2.2.2.2.2.2.2.2.1, r.2.1.2.2.2.2.2.2.2.2.2.1, r.2.2.1.1), r.1.2.2.2.2.2.2.2.2.2.2.2.2.2.2.2.2.2.2.2.2.2.2.2.2.2.2.2.2.2.2.2.2.2.2.2.2.2.2.2.2.2.2.2.2.2.2.2.2.2.2.2.2.2.2.2.2.2.2.2.2.2.2.2.2.2.2.2.2.2.2.2.2.2.2.2.2.2.1)
def back_impl_NodeFault_1 (c : (Sl Int) × Int × Int × Int × Int × Int × (Sl S_impl_Entry) × Int × Int × (Sl Int) × (Sl Int) × (Sl Int) × Int) (w : Int) : St RT den := ⟨[.dead, (.ref 0 0), .dead, .dead, (.ref 1 0), .dead, .dead, .dead, .dead, .dead, .dead, .dead, .dead, .dead, .dead, .dead, .dead, .dead, .dead, .dead, .dead, .dead, .dead, .dead, .dead, .dead, .dead, .dead, .dead, .dead, .dead, .dead, .dead, .dead, .dead, .dead, .dead, .dead, .dead, .dead, .dead, .dead, .dead, .dead, .dead, .dead, .dead, .dead, .dead, .dead, .dead, .dead, .dead, .dead, .dead, .dead, .dead, .dead, .dead, .dead, .dead, .dead, .dead, .dead, .dead, .dead, .dead, .dead, .dead, .dead, .dead, .dead, .dead, .dead, .dead, (.rs c.1.z .i64 c.1.n c.1.f), (.int .i64 c.2.1), (.int .i64 w), .dead, .dead, .dead, .dead, .dead, .dead, .dead, .dead, .dead, .dead, .dead, .dead, .dead, .dead, .dead, .dead, .dead, .dead, .dead, .dead, .dead, .dead, .dead, .dead, .dead, .dead, .dead, .dead, .dead, .dead, .dead, .dead, .dead, .dead, .dead, .dead, .dead, .dead, .dead, .dead, .dead, .dead, .dead, .dead, .dead, .dead, .dead, .dead, .dead, .dead, .dead, .dead, .dead, .dead, .dead, .dead, .dead, .dead, .dead, .dead, .dead, .dead, .dead, .dead, .dead, .dead], [(.box [(.int .i64 c.2.2.1), (.int .i64 c.2.2.2.1), (.int .i64 c.2.2.2.2.1), (.int .i64 c.2.2.2.2.2.1), (.rs c.2.2.2.2.2.2.1.z .impl_Entry c.2.2.2.2.2.2.1.n c.2.2.2.2.2.2.1.f), (.int .i64 c.2.2.2.2.2.2.2.1), (.int .i64 c.2.2.2.2.2.2.2.2.1), (.rs c.2.2.2.2.2.2.2.2.2.1.z .i64 c.2.2.2.2.2.2.2.2.2.1.n c.2.2.2.2.2.2.2.2.2.1.f), (.rs c.2.2.2.2.2.2.2.2.2.2.1.z .i64 c.2.2.2.2.2.2.2.2.2.2.1.n c.2.2.2.2.2.2.2.2.2.2.1.f), (.rs c.2.2.2.2.2.2.2.2.2.2.2.1.z .i64 c.2.2.2.2.2.2.2.2.2.2.2.1.n c.2.2.2.2.2.2.2.2.2.2.2.1.f)]), (.box [(.int .i64 c.2.2.2.2.2.2.2.2.2.2.2.2)])]⟩
def Bk_impl_NodeFault_1 {ρ : Type} (fu : Nat) (c : (Sl Int) × Int × Int × Int × Int × Int × (Sl S_impl_Entry) × Int × Int × (Sl Int) × (Sl Int) × (Sl Int) × Int) (k : Ex → St RT den → Option ρ) (w : Int) (go : (Int) → Option ρ) : Option ρ := F_impl_NodeFault_B1 fu c.1 c.2.1 c.2.2.1 c.2.2.2.1 c.2.2.2.2.1 c.2.2.2.2.2.1 c.2.2.2.2.2.2.1 c.2.2.2.2.2.2.2.1 c.2.2.2.2.2.2.2.2.1 c.2.2.2.2.2.2.2.2.2.1 c.2.2.2.2.2.2.2.2.2.2.1 c.2.2.2.2.2.2.2.2.2.2.2.1 c.2.2.2.2.2.2.2.2.2.2.2.2 (k .ret ⟨[.dead, (.ref 0 0), (.int .i64 1), .dead, (.ref 1 0), .dead, .dead, .dead, .dead, .dead, .dead, .dead, .dead, .dead, .dead, .dead, .dead, .dead, .dead, .dead, .dead, .dead, .dead, .dead, .dead, .dead, .dead, .dead, .dead, .dead, .dead, .dead, .dead, .dead, .dead, .dead, .dead, .dead, .dead, .dead, .dead, .dead, .dead, .dead, .dead, .dead, .dead, .dead, .dead, .dead, .dead, .dead, .dead, .dead, .dead, .dead, .dead, .dead, .dead, .dead, .dead, .dead, .dead, .dead, .dead, .dead, .dead, .dead, .dead, .dead, .dead, .dead, .dead, .dead, .dead, .dead, .dead, .dead, .dead, .dead, .dead, .dead, .dead, .dead, .dead, .dead, .dead, .dead, .dead, .dead, .dead, .dead, .dead, .dead, .dead, .dead, .dead, .dead, .dead, .dead, .dead, .dead, .dead, .dead, .dead, .dead, .dead, .dead, .dead, .dead, .dead, .dead, .dead, .dead, .dead, .dead, .dead, .dead, .dead, .dead, .dead, .dead, .dead, .dead, .dead, .dead, .dead, .dead, .dead, .dead, .dead, .dead, .dead, .dead, .dead, .dead, .dead, .dead, .dead, .dead, .dead, .dead, .dead, .dead], [(.box [(.int .i64 c.2.2.1), (.int .i64 c.2.2.2.1), (.int .i64 c.2.2.2.2.1), (.int .i64 c.2.2.2.2.2.1), (.rs c.2.2.2.2.2.2.1.z .impl_Entry c.2.2.2.2.2.2.1.n c.2.2.2.2.2.2.1.f), (.int .i64 c.2.2.2.2.2.2.2.1), (.int .i64 c.2.2.2.2.2.2.2.2.1), (.rs c.2.2.2.2.2.2.2.2.2.1.z .i64 c.2.2.2.2.2.2.2.2.2.1.n c.2.2.2.2.2.2.2.2.2.1.f), (.rs c.2.2.2.2.2.2.2.2.2.2.1.z .i64 c.2.2.2.2.2.2.2.2.2.2.1.n c.2.2.2.2.2.2.2.2.2.2.1.f), (.rs c.2.2.2.2.2.2.2.2.2.2.2.1.z .i64 c.2.2.2.2.2.2.2.2.2.2.2.1.n c.2.2.2.2.2.2.2.2.2.2.2.1.f)]), (.box [(.int .i64 c.2.2.2.2.2.2.2.2.2.2.2.2)])]⟩) (k (.exit 1) ⟨[.dead, (.ref 0 0), .dead, .dead, (.ref 1 0), .dead, .dead, .dead, .dead, .dead, .dead, .dead, .dead, .dead, .dead, .dead, .dead, .dead, .dead, .dead, .dead, .dead, .dead, .dead, .dead, .dead, .dead, .dead, .dead, .dead, .dead, .dead, .dead, .dead, .dead, .dead, .dead, .dead, .dead, .dead, .dead, .dead, .dead, .dead, .dead, .dead, .dead, .dead, .dead, .dead, .dead, .dead, .dead, .dead, .dead, .dead, .dead, .dead, .dead, .dead, .dead, .dead, .dead, .dead, .dead, .dead, .dead, .dead, .dead, .dead, .dead, .dead, .dead, .dead, .dead, .dead, .dead, .dead, .dead, .dead, .dead, .dead, .dead, .dead, .dead, .dead, .dead, .dead, .dead, .dead, .dead, .dead, .dead, .dead, .dead, .dead, .dead, .dead, .dead, .dead, .dead, .dead, .dead, .dead, .dead, .dead, .dead, .dead, .dead, .dead, .dead, .dead, .dead, .dead, .dead, .dead, .dead, .dead, .dead, .dead, .dead, .dead, .dead, .dead, .dead, .dead, .dead, .dead, .dead, .dead, .dead, .dead, .dead, .dead, .dead, .dead, .dead, .dead, .dead, .dead, .dead, .dead, .dead, .dead], [(.box [(.int .i64 c.2.2.1), (.int .i64 c.2.2.2.1), (.int .i64 c.2.2.2.2.1), (.int .i64 c.2.2.2.2.2.1), (.rs c.2.2.2.2.2.2.1.z .impl_Entry c.2.2.2.2.2.2.1.n c.2.2.2.2.2.2.1.f), (.int .i64 c.2.2.2.2.2.2.2.1), (.int .i64 c.2.2.2.2.2.2.2.2.1), (.rs c.2.2.2.2.2.2.2.2.2.1.z .i64 c.2.2.2.2.2.2.2.2.2.1.n c.2.2.2.2.2.2.2.2.2.1.f), (.rs c.2.2.2.2.2.2.2.2.2.2.1.z .i64 c.2.2.2.2.2.2.2.2.2.2.1.n c.2.2.2.2.2.2.2.2.2.2.1.f), (.rs c.2.2.2.2.2.2.2.2.2.2.2.1.z .i64 c.2.2.2.2.2.2.2.2.2.2.2.1.n c.2.2.2.2.2.2.2.2.2.2.2.1.f)]), (.box [(.int .i64 c.2.2.2.2.2.2.2.2.2.2.2.2)])]⟩) w go
def lp_impl_NodeFault (fu : Nat) : Lp RT den (Int) := fun b s k => match b with | 1 => handle ps_impl_NodeFault_1 os_impl_NodeFault_1 conv_impl_NodeFault_1 (Bk_impl_NodeFault_1 fu) fu s k | _ => none
theorem ev_impl_NodeFault (fu : Nat) (t_0 : S_impl_Node) : evFun E (pc_impl_NodeFault fu) msk_impl_NodeFault (lp_impl_NodeFault fu) out_i64 70 [(.agg [(.int .i64 t_0.Id), (.int .i64 t_0.Peers), (.int .i64 t_0.Term), (.int .i64 t_0.Voted), (.rs t_0.Log.z .impl_Entry t_0.Log.n t_0.Log.f), (.int .i64 t_0.Role), (.int .i64 t_0.Commit), (.rs t_0.Votes.z .i64 t_0.Votes.n t_0.Votes.f), (.rs t_0.Next.z .i64 t_0.Next.n t_0.Next.f), (.rs t_0.Match.z .i64 t_0.Match.n t_0.Match.f)])] = F_impl_NodeFault fu t_0 := by kernel_rfl
noncomputable def body_impl_NodeFault : Code := Try.f70.body.getD .skip
noncomputable def lc_impl_NodeFault_1 : Code := ((loops 0 body_impl_NodeFault).getD 0 (0, .skip)).2
theorem round_impl_NodeFault_1 (fu : Nat) (it : St RT den → Option (Int)) (k : Ex → St RT den → Option (Int)) c w : evCode E (pc_impl_NodeFault fu) msk_impl_NodeFault (lp_impl_NodeFault fu) 1 lc_impl_NodeFault_1 (back_impl_NodeFault_1 c w) (after (msk_impl_NodeFault 1) (msk_impl_NodeFault 100001) 2 it k) = Bk_impl_NodeFault_1 fu c k w (fun w => it (back_impl_NodeFault_1 c w)) := by kernel_rfl
theorem lpok_impl_NodeFault_1 (fu : Nat) : ∀ s k r, lp_impl_NodeFault fu 1 s k = some r → ∃ fuel, iter (msk_impl_NodeFault 1) (msk_impl_NodeFault 100001) s.objs.length (evCode E (pc_impl_NodeFault fu) msk_impl_NodeFault (lp_impl_NodeFault fu) 1 lc_impl_NodeFault_1) fuel s k = some r :=
  handle_ok (ps := ps_impl_NodeFault_1) (os := os_impl_NodeFault_1) (conv := conv_impl_NodeFault_1) (B := Bk_impl_NodeFault_1 fu) (fu := fu) back_impl_NodeFault_1 (fun raw => by kernel_rfl) 2 (fun c w => by kernel_rfl) (round_impl_NodeFault_1 fu)
theorem lpok_impl_NodeFault (fu : Nat) : LpOk E (pc_impl_NodeFault fu) msk_impl_NodeFault (lp_impl_NodeFault fu) (loops 0 body_impl_NodeFault) := loop_all 1 (by kernel_rfl) fun i hi => match i, hi with
  | 0, _ => by
    have h : (loops 0 body_impl_NodeFault).getD 0 (0, .skip) = (1, lc_impl_NodeFault_1) := by kernel_rfl
    rw [h]; exact lpok_impl_NodeFault_1 fu
  | i + 1, hi => absurd hi (by omega)
def S_impl_NodeFault (fu : Nat) (xs : List (D RT den)) : Option (Out RT den) := match xs with | [.agg [.int .i64 a0_1, .int .i64 a0_2, .int .i64 a0_3, .int .i64 a0_4, .rs za0_5 .impl_Entry na0_5 fa0_5, .int .i64 a0_6, .int .i64 a0_7, .rs za0_8 .i64 na0_8 fa0_8, .rs za0_9 .i64 na0_9 fa0_9, .rs za0_10 .i64 na0_10 fa0_10]] => some ⟨Int, F_impl_NodeFault fu (⟨a0_1, a0_2, a0_3, a0_4, (⟨za0_5, na0_5, fa0_5⟩ : (Sl S_impl_Entry)), a0_6, a0_7, (⟨za0_8, na0_8, fa0_8⟩ : (Sl Int)), (⟨za0_9, na0_9, fa0_9⟩ : (Sl Int)), (⟨za0_10, na0_10, fa0_10⟩ : (Sl Int))⟩ : S_impl_Node), enc_i64, fun _ => true⟩ | _ => none
theorem hpc_impl_NodeFault (fu : Nat) : ∀ f xs o, pcf_impl_NodeFault fu f xs = some o → ∀ y, o.x = some y → Good E Try.prog f xs (o.g y) := by
  intro f xs o h
  unfold pcf_impl_NodeFault at h
  split at h
  · exact good_impl_LogFault fu xs o h
  · exact good_impl_last fu xs o h
  · exact good_impl_in fu xs o h
  · exact good_impl_size_impl_Entry fu xs o h
  · exact good_impl_Node_isId fu xs o h
  · exact good_impl_size_int64 fu xs o h
  · split at h
    · rename_i o' ho; cases h; exact good_slices_ContainsFunc_int64_int64_w_impl_NodeFault_c1 fu xs _ ho
    · exact good_slices_ContainsFunc_int64_int64_w_impl_NodeFault_c2 fu xs o h
  · cases h
theorem hpx_impl_NodeFault (fu : Nat) : ∀ f xs ins o, pcx_impl_NodeFault fu f xs ins = some o → ∀ y, o.x = some y → GoodX E Try.prog f xs ins (o.g y).1 (o.g y).2 := by
  intro f xs ins o h
  cases h
theorem goodv_impl_NodeFault (fu : Nat) (t_0 : S_impl_Node) (y : Int) (hy : F_impl_NodeFault fu t_0 = some y) : Good E Try.prog 70 [(.agg [(.int .i64 t_0.Id), (.int .i64 t_0.Peers), (.int .i64 t_0.Term), (.int .i64 t_0.Voted), (.rs t_0.Log.z .impl_Entry t_0.Log.n t_0.Log.f), (.int .i64 t_0.Role), (.int .i64 t_0.Commit), (.rs t_0.Votes.z .i64 t_0.Votes.n t_0.Votes.f), (.rs t_0.Next.z .i64 t_0.Next.n t_0.Next.f), (.rs t_0.Match.z .i64 t_0.Match.n t_0.Match.f)])] (enc_i64 y) :=
  fun_good E_ok (pc_good (pc := pc_impl_NodeFault fu) (hpc_impl_NodeFault fu) (hpx_impl_NodeFault fu)) (fn := Try.f70) (c := body_impl_NodeFault) (out := out_i64) (y := y) (by kernel_rfl) (by kernel_rfl) (by kernel_rfl) (lpok_impl_NodeFault fu) (fun d hd => out_i64_enc d _ hd) ((ev_impl_NodeFault fu t_0).trans hy)
theorem good_impl_NodeFault (fu : Nat) : ∀ xs o, S_impl_NodeFault fu xs = some o → ∀ y, o.x = some y → Good E Try.prog 70 xs (o.g y) := by
  intro xs o h y hy
  unfold S_impl_NodeFault at h
  split at h
  · rename_i a0_1 a0_2 a0_3 a0_4 za0_5 na0_5 fa0_5 a0_6 a0_7 za0_8 na0_8 fa0_8 za0_9 na0_9 fa0_9 za0_10 na0_10 fa0_10
    cases h
    exact goodv_impl_NodeFault fu (⟨a0_1, a0_2, a0_3, a0_4, (⟨za0_5, na0_5, fa0_5⟩ : (Sl S_impl_Entry)), a0_6, a0_7, (⟨za0_8, na0_8, fa0_8⟩ : (Sl Int)), (⟨za0_9, na0_9, fa0_9⟩ : (Sl Int)), (⟨za0_10, na0_10, fa0_10⟩ : (Sl Int))⟩ : S_impl_Node) y hy
  · cases h

/-! impl.CrashNode -/
def F_impl_CrashNode_H (fu : Nat) (n_0 : S_impl_Node) : Option (S_impl_NodeResult) :=
  ((F_impl_NodeFault fu n_0).bind fun y264 => (bif (y264 != 0) then (some (⟨y264, (⟨0, 0, 0, 0, (⟨(some true), 0, (fun _ => dflt .impl_Entry)⟩ : (Sl S_impl_Entry)), 0, 0, (⟨(some true),
    0, (fun _ => dflt .i64)⟩ : (Sl Int)), (⟨(some true), 0, (fun _ => dflt .i64)⟩ : (Sl Int)), (⟨(some true), 0, (fun _ => dflt .i64)⟩ : (Sl Int))⟩ : S_impl_Node), (⟨(some true), 0,
    (fun _ => dflt .impl_Mail)⟩ : (Sl S_impl_Mail))⟩ : S_impl_NodeResult)) else ((F_slices_Clone_impl_Entry_impl_Entry_H fu n_0.Log).bind fun y265 => (some (⟨0, (⟨n_0.Id, n_0.Peers,
    n_0.Term, n_0.Voted, (⟨none, y265.n, y265.f⟩ : (Sl S_impl_Entry)), 0, 0, (⟨(some true), 0, (fun _ => dflt .i64)⟩ : (Sl Int)), (⟨(some true), 0, (fun _ => dflt .i64)⟩ : (Sl Int)),
    (⟨(some true), 0, (fun _ => dflt .i64)⟩ : (Sl Int))⟩ : S_impl_Node), (⟨(some true), 0, (fun _ => dflt .impl_Mail)⟩ : (Sl S_impl_Mail))⟩ : S_impl_NodeResult)))))
def pcf_impl_CrashNode_H (fu : Nat) (f : Nat) (xs : List (D RT den)) : Option (Out RT den) := match f with | 70 => S_impl_NodeFault fu xs | _ => none
def pcx_impl_CrashNode_H (fu : Nat) (f : Nat) (xs : List (D RT den)) (ins : List (Ob RT den)) : Option (OutX RT den) := match f with | 71 => S_slices_Clone_impl_Entry_impl_Entry_H fu xs ins | _ => none
def pc_impl_CrashNode_H (fu : Nat) : Pc RT den := ⟨pcf_impl_CrashNode_H fu, fun f => match f with | 71 => true | _ => false, fun _ => false, pcx_impl_CrashNode_H fu⟩
def msk_impl_CrashNode_H (b : Nat) : List Nat := []
def lp_impl_CrashNode_H (fu : Nat) : Lp RT den (S_impl_NodeResult) := fun b s k => none
theorem ev_impl_CrashNode_H (fu : Nat) (n_0 : S_impl_Node) : evFunX E (pc_impl_CrashNode_H fu) msk_impl_CrashNode_H (lp_impl_CrashNode_H fu) out_impl_NodeResult_H 33 [(.agg [(.int .i64 n_0.Id), (.int .i64 n_0.Peers), (.int .i64 n_0.Term), (.int .i64 n_0.Voted), (.rs n_0.Log.z .impl_Entry n_0.Log.n n_0.Log.f), (.int .i64 n_0.Role), (.int .i64 n_0.Commit), (.rs n_0.Votes.z .i64 n_0.Votes.n n_0.Votes.f), (.rs n_0.Next.z .i64 n_0.Next.n n_0.Next.f), (.rs n_0.Match.z .i64 n_0.Match.n n_0.Match.f)])] [] = F_impl_CrashNode_H fu n_0 := by kernel_rfl
noncomputable def body_impl_CrashNode_H : Code := Try.f33.body.getD .skip
theorem lpok_impl_CrashNode_H (fu : Nat) : LpOk E (pc_impl_CrashNode_H fu) msk_impl_CrashNode_H (lp_impl_CrashNode_H fu) (loops 0 body_impl_CrashNode_H) := by
  have h : loops 0 body_impl_CrashNode_H = [] := by kernel_rfl
  rw [h]; intro p hp; cases hp
def S_impl_CrashNode_H (fu : Nat) (xs : List (D RT den)) (ins : List (Ob RT den)) : Option (OutX RT den) := match xs, ins with | [.agg [.int .i64 a0_1, .int .i64 a0_2, .int .i64 a0_3, .int .i64 a0_4, .rs za0_5 .impl_Entry na0_5 fa0_5, .int .i64 a0_6, .int .i64 a0_7, .rs za0_8 .i64 na0_8 fa0_8, .rs za0_9 .i64 na0_9 fa0_9, .rs za0_10 .i64 na0_10 fa0_10]], [] => some ⟨S_impl_NodeResult, F_impl_CrashNode_H fu (⟨a0_1, a0_2, a0_3, a0_4, (⟨za0_5, na0_5, fa0_5⟩ : (Sl S_impl_Entry)), a0_6, a0_7, (⟨za0_8, na0_8, fa0_8⟩ : (Sl Int)), (⟨za0_9, na0_9, fa0_9⟩ : (Sl Int)), (⟨za0_10, na0_10, fa0_10⟩ : (Sl Int))⟩ : S_impl_Node), enc_impl_NodeResult_H⟩ | _, _ => none
theorem hpc_impl_CrashNode_H (fu : Nat) : ∀ f xs o, pcf_impl_CrashNode_H fu f xs = some o → ∀ y, o.x = some y → Good E Try.prog f xs (o.g y) := by
  intro f xs o h
  unfold pcf_impl_CrashNode_H at h
  split at h
  · exact good_impl_NodeFault fu xs o h
  · cases h
theorem hpx_impl_CrashNode_H (fu : Nat) : ∀ f xs ins o, pcx_impl_CrashNode_H fu f xs ins = some o → ∀ y, o.x = some y → GoodX E Try.prog f xs ins (o.g y).1 (o.g y).2 := by
  intro f xs ins o h
  unfold pcx_impl_CrashNode_H at h
  split at h
  · exact good_slices_Clone_impl_Entry_impl_Entry_H fu xs ins o h
  · cases h
theorem goodv_impl_CrashNode_H (fu : Nat) (n_0 : S_impl_Node) (y : S_impl_NodeResult) (hy : F_impl_CrashNode_H fu n_0 = some y) : GoodX E Try.prog 33 [(.agg [(.int .i64 n_0.Id), (.int .i64 n_0.Peers), (.int .i64 n_0.Term), (.int .i64 n_0.Voted), (.rs n_0.Log.z .impl_Entry n_0.Log.n n_0.Log.f), (.int .i64 n_0.Role), (.int .i64 n_0.Commit), (.rs n_0.Votes.z .i64 n_0.Votes.n n_0.Votes.f), (.rs n_0.Next.z .i64 n_0.Next.n n_0.Next.f), (.rs n_0.Match.z .i64 n_0.Match.n n_0.Match.f)])] [] (enc_impl_NodeResult_H y).1 (enc_impl_NodeResult_H y).2 :=
  funX_good E_ok (pc_good (pc := pc_impl_CrashNode_H fu) (hpc_impl_CrashNode_H fu) (hpx_impl_CrashNode_H fu)) (fn := Try.f33) (c := body_impl_CrashNode_H) (out := out_impl_NodeResult_H) (y := y) (by kernel_rfl) (by kernel_rfl) (by kernel_rfl) (lpok_impl_CrashNode_H fu) (by kernel_rfl) (Nat.zero_le _) (fun d os hd => out_impl_NodeResult_H_enc d os _ hd) ((ev_impl_CrashNode_H fu n_0).trans hy)
theorem good_impl_CrashNode_H (fu : Nat) : ∀ xs ins o, S_impl_CrashNode_H fu xs ins = some o → ∀ y, o.x = some y → GoodX E Try.prog 33 xs ins (o.g y).1 (o.g y).2 := by
  intro xs ins o h y hy
  unfold S_impl_CrashNode_H at h
  split at h
  · rename_i a0_1 a0_2 a0_3 a0_4 za0_5 na0_5 fa0_5 a0_6 a0_7 za0_8 na0_8 fa0_8 za0_9 na0_9 fa0_9 za0_10 na0_10 fa0_10
    cases h
    exact goodv_impl_CrashNode_H fu (⟨a0_1, a0_2, a0_3, a0_4, (⟨za0_5, na0_5, fa0_5⟩ : (Sl S_impl_Entry)), a0_6, a0_7, (⟨za0_8, na0_8, fa0_8⟩ : (Sl Int)), (⟨za0_9, na0_9, fa0_9⟩ : (Sl Int)), (⟨za0_10, na0_10, fa0_10⟩ : (Sl Int))⟩ : S_impl_Node) y hy
  · cases h

/-! laws.szInt64S -/
def F_laws_szInt64S (fu : Nat) (a_0 : (Sl Int)) (left_1 : Int) : Option (Int) :=
  (bif (decide ((IntKind.wrap .i64 (left_1 - ((a_0.n : Nat) : Int))) < 0)) then (some (-1)) else (some (IntKind.wrap .i64 (left_1 - ((a_0.n : Nat) : Int)))))
def pcf_laws_szInt64S (fu : Nat) (f : Nat) (xs : List (D RT den)) : Option (Out RT den) := none
def pcx_laws_szInt64S (fu : Nat) (f : Nat) (xs : List (D RT den)) (ins : List (Ob RT den)) : Option (OutX RT den) := none
def pc_laws_szInt64S (fu : Nat) : Pc RT den := ⟨pcf_laws_szInt64S fu, fun _ => false, fun _ => false, pcx_laws_szInt64S fu⟩
def msk_laws_szInt64S (b : Nat) : List Nat := []
def lp_laws_szInt64S (fu : Nat) : Lp RT den (Int) := fun b s k => none
theorem ev_laws_szInt64S (fu : Nat) (a_0 : (Sl Int)) (left_1 : Int) : evFun E (pc_laws_szInt64S fu) msk_laws_szInt64S (lp_laws_szInt64S fu) out_i64 67 [(.rs a_0.z .i64 a_0.n a_0.f), (.int .i64 left_1)] = F_laws_szInt64S fu a_0 left_1 := by kernel_rfl
noncomputable def body_laws_szInt64S : Code := Try.f67.body.getD .skip
theorem lpok_laws_szInt64S (fu : Nat) : LpOk E (pc_laws_szInt64S fu) msk_laws_szInt64S (lp_laws_szInt64S fu) (loops 0 body_laws_szInt64S) := by
  have h : loops 0 body_laws_szInt64S = [] := by kernel_rfl
  rw [h]; intro p hp; cases hp
def S_laws_szInt64S (fu : Nat) (xs : List (D RT den)) : Option (Out RT den) := match xs with | [.rs za0_0 .i64 na0_0 fa0_0, .int .i64 a1_0] => some ⟨Int, F_laws_szInt64S fu (⟨za0_0, na0_0, fa0_0⟩ : (Sl Int)) a1_0, enc_i64, fun _ => true⟩ | _ => none
theorem hpc_laws_szInt64S (fu : Nat) : ∀ f xs o, pcf_laws_szInt64S fu f xs = some o → ∀ y, o.x = some y → Good E Try.prog f xs (o.g y) := by
  intro f xs o h
  cases h
theorem hpx_laws_szInt64S (fu : Nat) : ∀ f xs ins o, pcx_laws_szInt64S fu f xs ins = some o → ∀ y, o.x = some y → GoodX E Try.prog f xs ins (o.g y).1 (o.g y).2 := by
  intro f xs ins o h
  cases h
theorem goodv_laws_szInt64S (fu : Nat) (a_0 : (Sl Int)) (left_1 : Int) (y : Int) (hy : F_laws_szInt64S fu a_0 left_1 = some y) : Good E Try.prog 67 [(.rs a_0.z .i64 a_0.n a_0.f), (.int .i64 left_1)] (enc_i64 y) :=
  fun_good E_ok (pc_good (pc := pc_laws_szInt64S fu) (hpc_laws_szInt64S fu) (hpx_laws_szInt64S fu)) (fn := Try.f67) (c := body_laws_szInt64S) (out := out_i64) (y := y) (by kernel_rfl) (by kernel_rfl) (by kernel_rfl) (lpok_laws_szInt64S fu) (fun d hd => out_i64_enc d _ hd) ((ev_laws_szInt64S fu a_0 left_1).trans hy)
theorem good_laws_szInt64S (fu : Nat) : ∀ xs o, S_laws_szInt64S fu xs = some o → ∀ y, o.x = some y → Good E Try.prog 67 xs (o.g y) := by
  intro xs o h y hy
  unfold S_laws_szInt64S at h
  split at h
  · rename_i za0_0 na0_0 fa0_0 a1_0
    cases h
    exact goodv_laws_szInt64S fu (⟨za0_0, na0_0, fa0_0⟩ : (Sl Int)) a1_0 y hy
  · cases h

/-! laws.szNode -/
def F_laws_szNode (fu : Nat) (a_0 : S_laws_Node) (left_1 : Int) : Option (Int) :=
  ((F_laws_szEntryS fu a_0.Log left_1).bind fun y314 => (bif (decide (y314 < 0)) then (some (-1)) else ((F_laws_szInt64S fu a_0.Votes y314).bind fun y315 => (bif (decide (y315 < 0)) then
    (some (-1)) else ((F_laws_szInt64S fu a_0.Next y315).bind fun y316 => (bif (decide (y316 < 0)) then (some (-1)) else ((F_laws_szInt64S fu a_0.Match y316).bind fun y317 => (bif (decide (y317 < 0)) then
    (some (-1)) else (some y317)))))))))
def pcf_laws_szNode (fu : Nat) (f : Nat) (xs : List (D RT den)) : Option (Out RT den) := match f with | 8 => S_laws_szEntryS fu xs | 67 => S_laws_szInt64S fu xs | _ => none
def pcx_laws_szNode (fu : Nat) (f : Nat) (xs : List (D RT den)) (ins : List (Ob RT den)) : Option (OutX RT den) := none
def pc_laws_szNode (fu : Nat) : Pc RT den := ⟨pcf_laws_szNode fu, fun _ => false, fun _ => false, pcx_laws_szNode fu⟩
def msk_laws_szNode (b : Nat) : List Nat := []
def lp_laws_szNode (fu : Nat) : Lp RT den (Int) := fun b s k => none
theorem ev_laws_szNode (fu : Nat) (a_0 : S_laws_Node) (left_1 : Int) : evFun E (pc_laws_szNode fu) msk_laws_szNode (lp_laws_szNode fu) out_i64 30 [(.agg [(.int .i64 a_0.Id), (.int .i64 a_0.Peers), (.int .i64 a_0.Term), (.int .i64 a_0.Voted), (.rs a_0.Log.z .laws_Entry a_0.Log.n a_0.Log.f), (.int .i64 a_0.Role), (.int .i64 a_0.Commit), (.rs a_0.Votes.z .i64 a_0.Votes.n a_0.Votes.f), (.rs a_0.Next.z .i64 a_0.Next.n a_0.Next.f), (.rs a_0.Match.z .i64 a_0.Match.n a_0.Match.f)]), (.int .i64 left_1)] = F_laws_szNode fu a_0 left_1 := by kernel_rfl
noncomputable def body_laws_szNode : Code := Try.f30.body.getD .skip
theorem lpok_laws_szNode (fu : Nat) : LpOk E (pc_laws_szNode fu) msk_laws_szNode (lp_laws_szNode fu) (loops 0 body_laws_szNode) := by
  have h : loops 0 body_laws_szNode = [] := by kernel_rfl
  rw [h]; intro p hp; cases hp
def S_laws_szNode (fu : Nat) (xs : List (D RT den)) : Option (Out RT den) := match xs with | [.agg [.int .i64 a0_1, .int .i64 a0_2, .int .i64 a0_3, .int .i64 a0_4, .rs za0_5 .laws_Entry na0_5 fa0_5, .int .i64 a0_6, .int .i64 a0_7, .rs za0_8 .i64 na0_8 fa0_8, .rs za0_9 .i64 na0_9 fa0_9, .rs za0_10 .i64 na0_10 fa0_10], .int .i64 a1_0] => some ⟨Int, F_laws_szNode fu (⟨a0_1, a0_2, a0_3, a0_4, (⟨za0_5, na0_5, fa0_5⟩ : (Sl S_laws_Entry)), a0_6, a0_7, (⟨za0_8, na0_8, fa0_8⟩ : (Sl Int)), (⟨za0_9, na0_9, fa0_9⟩ : (Sl Int)), (⟨za0_10, na0_10, fa0_10⟩ : (Sl Int))⟩ : S_laws_Node) a1_0, enc_i64, fun _ => true⟩ | _ => none
theorem hpc_laws_szNode (fu : Nat) : ∀ f xs o, pcf_laws_szNode fu f xs = some o → ∀ y, o.x = some y → Good E Try.prog f xs (o.g y) := by
  intro f xs o h
  unfold pcf_laws_szNode at h
  split at h
  · exact good_laws_szEntryS fu xs o h
  · exact good_laws_szInt64S fu xs o h
  · cases h
theorem hpx_laws_szNode (fu : Nat) : ∀ f xs ins o, pcx_laws_szNode fu f xs ins = some o → ∀ y, o.x = some y → GoodX E Try.prog f xs ins (o.g y).1 (o.g y).2 := by
  intro f xs ins o h
  cases h
theorem goodv_laws_szNode (fu : Nat) (a_0 : S_laws_Node) (left_1 : Int) (y : Int) (hy : F_laws_szNode fu a_0 left_1 = some y) : Good E Try.prog 30 [(.agg [(.int .i64 a_0.Id), (.int .i64 a_0.Peers), (.int .i64 a_0.Term), (.int .i64 a_0.Voted), (.rs a_0.Log.z .laws_Entry a_0.Log.n a_0.Log.f), (.int .i64 a_0.Role), (.int .i64 a_0.Commit), (.rs a_0.Votes.z .i64 a_0.Votes.n a_0.Votes.f), (.rs a_0.Next.z .i64 a_0.Next.n a_0.Next.f), (.rs a_0.Match.z .i64 a_0.Match.n a_0.Match.f)]), (.int .i64 left_1)] (enc_i64 y) :=
  fun_good E_ok (pc_good (pc := pc_laws_szNode fu) (hpc_laws_szNode fu) (hpx_laws_szNode fu)) (fn := Try.f30) (c := body_laws_szNode) (out := out_i64) (y := y) (by kernel_rfl) (by kernel_rfl) (by kernel_rfl) (lpok_laws_szNode fu) (fun d hd => out_i64_enc d _ hd) ((ev_laws_szNode fu a_0 left_1).trans hy)
theorem good_laws_szNode (fu : Nat) : ∀ xs o, S_laws_szNode fu xs = some o → ∀ y, o.x = some y → Good E Try.prog 30 xs (o.g y) := by
  intro xs o h y hy
  unfold S_laws_szNode at h
  split at h
  · rename_i a0_1 a0_2 a0_3 a0_4 za0_5 na0_5 fa0_5 a0_6 a0_7 za0_8 na0_8 fa0_8 za0_9 na0_9 fa0_9 za0_10 na0_10 fa0_10 a1_0
    cases h
    exact goodv_laws_szNode fu (⟨a0_1, a0_2, a0_3, a0_4, (⟨za0_5, na0_5, fa0_5⟩ : (Sl S_laws_Entry)), a0_6, a0_7, (⟨za0_8, na0_8, fa0_8⟩ : (Sl Int)), (⟨za0_9, na0_9, fa0_9⟩ : (Sl Int)), (⟨za0_10, na0_10, fa0_10⟩ : (Sl Int))⟩ : S_laws_Node) a1_0 y hy
  · cases h

/-! laws.FnExactCrashNode -/
def F_laws_FnExactCrashNode (fu : Nat) (aN_0 : S_laws_Node) : Option (Bool) :=
  ((F_laws_szNode fu aN_0 1048576).bind fun y232 => (bif (decide (y232 < 0)) then (some true) else ((F_laws_toNode_H fu aN_0).bind fun y238 => ((F_spec_CrashNode_H fu (⟨y238.Id,
    y238.Peers, y238.Term, y238.Voted, (⟨none, y238.Log.n, y238.Log.f⟩ : (Sl S_impl_Entry)), y238.Role, y238.Commit, (⟨none, y238.Votes.n, y238.Votes.f⟩ : (Sl Int)), (⟨none,
    y238.Next.n, y238.Next.f⟩ : (Sl Int)), (⟨none, y238.Match.n, y238.Match.f⟩ : (Sl Int))⟩ : S_impl_Node)).bind fun y262 => ((F_laws_toNode_H fu aN_0).bind fun y263 =>
    ((F_impl_CrashNode_H fu (⟨y263.Id, y263.Peers, y263.Term, y263.Voted, (⟨none, y263.Log.n, y263.Log.f⟩ : (Sl S_impl_Entry)), y263.Role, y263.Commit, (⟨none, y263.Votes.n,
    y263.Votes.f⟩ : (Sl Int)), (⟨none, y263.Next.n, y263.Next.f⟩ : (Sl Int)), (⟨none, y263.Match.n, y263.Match.f⟩ : (Sl Int))⟩ : S_impl_Node)).bind fun y301 => ((F_laws_eqNodeResult fu (⟨y301.Code,
    (⟨y301.Node.Id, y301.Node.Peers, y301.Node.Term, y301.Node.Voted, (⟨none, y301.Node.Log.n, y301.Node.Log.f⟩ : (Sl S_impl_Entry)), y301.Node.Role, y301.Node.Commit, (⟨none,
    y301.Node.Votes.n, y301.Node.Votes.f⟩ : (Sl Int)), (⟨none, y301.Node.Next.n, y301.Node.Next.f⟩ : (Sl Int)), (⟨none, y301.Node.Match.n, y301.Node.Match.f⟩ : (Sl Int))⟩ : S_impl_Node),
    (⟨(some true), 0, (fun _ => dflt .impl_Mail)⟩ : (Sl S_impl_Mail))⟩ : S_impl_NodeResult) (⟨y262.Code, (⟨y262.Node.Id, y262.Node.Peers, y262.Node.Term, y262.Node.Voted, (⟨none,
    y262.Node.Log.n, y262.Node.Log.f⟩ : (Sl S_impl_Entry)), y262.Node.Role, y262.Node.Commit, (⟨none, y262.Node.Votes.n, y262.Node.Votes.f⟩ : (Sl Int)), (⟨none, y262.Node.Next.n,
    y262.Node.Next.f⟩ : (Sl Int)), (⟨none, y262.Node.Match.n, y262.Node.Match.f⟩ : (Sl Int))⟩ : S_impl_Node), (⟨(some true), 0, (fun _ => dflt .impl_Mail)⟩ : (Sl S_impl_Mail))⟩ : S_impl_NodeResult)).bind fun y302 =>
    (bif (!y302) then (some false) else ((F_laws_toNode_H fu aN_0).bind fun y303 => ((F_laws_eqNode fu (⟨y263.Id, y263.Peers, y263.Term, y263.Voted, (⟨none, y263.Log.n, y263.Log.f⟩ : (Sl S_impl_Entry)),
    y263.Role, y263.Commit, (⟨none, y263.Votes.n, y263.Votes.f⟩ : (Sl Int)), (⟨none, y263.Next.n, y263.Next.f⟩ : (Sl Int)), (⟨none, y263.Match.n, y263.Match.f⟩ : (Sl Int))⟩ : S_impl_Node) (⟨y303.Id,
    y303.Peers, y303.Term, y303.Voted, (⟨none, y303.Log.n, y303.Log.f⟩ : (Sl S_impl_Entry)), y303.Role, y303.Commit, (⟨none, y303.Votes.n, y303.Votes.f⟩ : (Sl Int)), (⟨none,
    y303.Next.n, y303.Next.f⟩ : (Sl Int)), (⟨none, y303.Match.n, y303.Match.f⟩ : (Sl Int))⟩ : S_impl_Node)).bind fun y304 => (bif (!y304) then (some false) else ((F_laws_markNode_L fu y263.Id y263.Peers y263.Term y263.Voted y263.Log.n y263.Role y263.Commit y263.Votes.n y263.Next.n y263.Match.n 1 y263.Log.n y263.Log.f y263.Votes.n y263.Votes.f y263.Next.n y263.Next.f y263.Match.n y263.Match.f).bind fun y305 =>
    (((bif (decide (y305.1 < 0)) then (some true) else ((F_laws_eqNodeResult fu (⟨y301.Code, (⟨y301.Node.Id, y301.Node.Peers, y301.Node.Term, y301.Node.Voted, (⟨none,
    y301.Node.Log.n, y301.Node.Log.f⟩ : (Sl S_impl_Entry)), y301.Node.Role, y301.Node.Commit, (⟨none, y301.Node.Votes.n, y301.Node.Votes.f⟩ : (Sl Int)), (⟨none, y301.Node.Next.n,
    y301.Node.Next.f⟩ : (Sl Int)), (⟨none, y301.Node.Match.n, y301.Node.Match.f⟩ : (Sl Int))⟩ : S_impl_Node), (⟨(some true), 0, (fun _ => dflt .impl_Mail)⟩ : (Sl S_impl_Mail))⟩ : S_impl_NodeResult) (⟨y262.Code,
    (⟨y262.Node.Id, y262.Node.Peers, y262.Node.Term, y262.Node.Voted, (⟨none, y262.Node.Log.n, y262.Node.Log.f⟩ : (Sl S_impl_Entry)), y262.Node.Role, y262.Node.Commit, (⟨none,
    y262.Node.Votes.n, y262.Node.Votes.f⟩ : (Sl Int)), (⟨none, y262.Node.Next.n, y262.Node.Next.f⟩ : (Sl Int)), (⟨none, y262.Node.Match.n, y262.Node.Match.f⟩ : (Sl Int))⟩ : S_impl_Node),
    (⟨(some true), 0, (fun _ => dflt .impl_Mail)⟩ : (Sl S_impl_Mail))⟩ : S_impl_NodeResult)).bind fun y306 => (some (!y306)))) : Option Bool).bind fun m307 => (bif m307 then (some false) else
    ((F_laws_markNodeResult_L fu y301.Code y301.Node.Id y301.Node.Peers y301.Node.Term y301.Node.Voted y301.Node.Log.n y301.Node.Role y301.Node.Commit y301.Node.Votes.n y301.Node.Next.n y301.Node.Match.n 1 y301.Node.Log.n y301.Node.Log.f y301.Node.Votes.n y301.Node.Votes.f y301.Node.Next.n y301.Node.Next.f y301.Node.Match.n y301.Node.Match.f).bind fun y308 =>
    ((F_laws_heldNodeResult fu (⟨y301.Code, (⟨y301.Node.Id, y301.Node.Peers, y301.Node.Term, y301.Node.Voted, (⟨none, y301.Node.Log.n, y308.2.1.2⟩ : (Sl S_impl_Entry)),
    y301.Node.Role, y301.Node.Commit, (⟨none, y301.Node.Votes.n, y308.2.2.1.2⟩ : (Sl Int)), (⟨none, y301.Node.Next.n, y308.2.2.2.1.2⟩ : (Sl Int)), (⟨none, y301.Node.Match.n,
    y308.2.2.2.2.2⟩ : (Sl Int))⟩ : S_impl_Node), (⟨(some true), 0, (fun _ => dflt .impl_Mail)⟩ : (Sl S_impl_Mail))⟩ : S_impl_NodeResult) 1).bind fun y309 => (bif (decide (y309 < 0)) then
    (some false) else (bif (y309 != y308.1) then (some false) else ((F_laws_toNode_H fu aN_0).bind fun y310 => ((F_impl_CrashNode_H fu (⟨y310.Id, y310.Peers, y310.Term, y310.Voted,
    (⟨none, y310.Log.n, y310.Log.f⟩ : (Sl S_impl_Entry)), y310.Role, y310.Commit, (⟨none, y310.Votes.n, y310.Votes.f⟩ : (Sl Int)), (⟨none, y310.Next.n, y310.Next.f⟩ : (Sl Int)),
    (⟨none, y310.Match.n, y310.Match.f⟩ : (Sl Int))⟩ : S_impl_Node)).bind fun y311 => ((F_laws_eqNodeResult fu (⟨y311.Code, (⟨y311.Node.Id, y311.Node.Peers, y311.Node.Term,
    y311.Node.Voted, (⟨none, y311.Node.Log.n, y311.Node.Log.f⟩ : (Sl S_impl_Entry)), y311.Node.Role, y311.Node.Commit, (⟨none, y311.Node.Votes.n, y311.Node.Votes.f⟩ : (Sl Int)),
    (⟨none, y311.Node.Next.n, y311.Node.Next.f⟩ : (Sl Int)), (⟨none, y311.Node.Match.n, y311.Node.Match.f⟩ : (Sl Int))⟩ : S_impl_Node), (⟨(some true), 0, (fun _ => dflt .impl_Mail)⟩ : (Sl S_impl_Mail))⟩ : S_impl_NodeResult) (⟨y262.Code,
    (⟨y262.Node.Id, y262.Node.Peers, y262.Node.Term, y262.Node.Voted, (⟨none, y262.Node.Log.n, y262.Node.Log.f⟩ : (Sl S_impl_Entry)), y262.Node.Role, y262.Node.Commit, (⟨none,
    y262.Node.Votes.n, y262.Node.Votes.f⟩ : (Sl Int)), (⟨none, y262.Node.Next.n, y262.Node.Next.f⟩ : (Sl Int)), (⟨none, y262.Node.Match.n, y262.Node.Match.f⟩ : (Sl Int))⟩ : S_impl_Node),
    (⟨(some true), 0, (fun _ => dflt .impl_Mail)⟩ : (Sl S_impl_Mail))⟩ : S_impl_NodeResult)).bind fun y312 => (bif (!y312) then (some false) else ((F_laws_heldNodeResult fu (⟨y301.Code,
    (⟨y301.Node.Id, y301.Node.Peers, y301.Node.Term, y301.Node.Voted, (⟨none, y301.Node.Log.n, y308.2.1.2⟩ : (Sl S_impl_Entry)), y301.Node.Role, y301.Node.Commit, (⟨none,
    y301.Node.Votes.n, y308.2.2.1.2⟩ : (Sl Int)), (⟨none, y301.Node.Next.n, y308.2.2.2.1.2⟩ : (Sl Int)), (⟨none, y301.Node.Match.n, y308.2.2.2.2.2⟩ : (Sl Int))⟩ : S_impl_Node),
    (⟨(some true), 0, (fun _ => dflt .impl_Mail)⟩ : (Sl S_impl_Mail))⟩ : S_impl_NodeResult) 1).bind fun y313 => (bif (decide (y313 < 0)) then (some false) else (bif (y313 != y308.1) then
    (some false) else (some true))))))))))))))))))))))))))
def pcf_laws_FnExactCrashNode (fu : Nat) (f : Nat) (xs : List (D RT den)) : Option (Out RT den) := match f with | 27 => S_laws_eqNodeResult fu xs | 29 => S_laws_heldNodeResult fu xs | 30 => S_laws_szNode fu xs | 34 => S_laws_eqNode fu xs | _ => none
def pcx_laws_FnExactCrashNode (fu : Nat) (f : Nat) (xs : List (D RT den)) (ins : List (Ob RT den)) : Option (OutX RT den) := match f with | 28 => S_laws_markNodeResult_L fu xs ins | 31 => S_spec_CrashNode_H fu xs ins | 32 => S_laws_toNode_H fu xs ins | 33 => S_impl_CrashNode_H fu xs ins | 35 => S_laws_markNode_L fu xs ins | _ => none
def pc_laws_FnExactCrashNode (fu : Nat) : Pc RT den := ⟨pcf_laws_FnExactCrashNode fu, fun f => match f with | 28 => true | 31 => true | 32 => true | 33 => true | 35 => true | _ => false, fun f => match f with | 28 => true | 35 => true | _ => false, pcx_laws_FnExactCrashNode fu⟩
def msk_laws_FnExactCrashNode (b : Nat) : List Nat := match b with | 200014 => [42] | _ => []
def lp_laws_FnExactCrashNode (fu : Nat) : Lp RT den (Bool) := fun b s k => none
theorem ev_laws_FnExactCrashNode (fu : Nat) (aN_0 : S_laws_Node) : evFun E (pc_laws_FnExactCrashNode fu) msk_laws_FnExactCrashNode (lp_laws_FnExactCrashNode fu) out_bo 6 [(.agg [(.int .i64 aN_0.Id), (.int .i64 aN_0.Peers), (.int .i64 aN_0.Term), (.int .i64 aN_0.Voted), (.rs aN_0.Log.z .laws_Entry aN_0.Log.n aN_0.Log.f), (.int .i64 aN_0.Role), (.int .i64 aN_0.Commit), (.rs aN_0.Votes.z .i64 aN_0.Votes.n aN_0.Votes.f), (.rs aN_0.Next.z .i64 aN_0.Next.n aN_0.Next.f), (.rs aN_0.Match.z .i64 aN_0.Match.n aN_0.Match.f)])] = F_laws_FnExactCrashNode fu aN_0 := by kernel_rfl
noncomputable def body_laws_FnExactCrashNode : Code := Try.f6.body.getD .skip
theorem lpok_laws_FnExactCrashNode (fu : Nat) : LpOk E (pc_laws_FnExactCrashNode fu) msk_laws_FnExactCrashNode (lp_laws_FnExactCrashNode fu) (loops 0 body_laws_FnExactCrashNode) := by
  have h : loops 0 body_laws_FnExactCrashNode = [] := by kernel_rfl
  rw [h]; intro p hp; cases hp
def S_laws_FnExactCrashNode (fu : Nat) (xs : List (D RT den)) : Option (Out RT den) := match xs with | [.agg [.int .i64 a0_1, .int .i64 a0_2, .int .i64 a0_3, .int .i64 a0_4, .rs za0_5 .laws_Entry na0_5 fa0_5, .int .i64 a0_6, .int .i64 a0_7, .rs za0_8 .i64 na0_8 fa0_8, .rs za0_9 .i64 na0_9 fa0_9, .rs za0_10 .i64 na0_10 fa0_10]] => some ⟨Bool, F_laws_FnExactCrashNode fu (⟨a0_1, a0_2, a0_3, a0_4, (⟨za0_5, na0_5, fa0_5⟩ : (Sl S_laws_Entry)), a0_6, a0_7, (⟨za0_8, na0_8, fa0_8⟩ : (Sl Int)), (⟨za0_9, na0_9, fa0_9⟩ : (Sl Int)), (⟨za0_10, na0_10, fa0_10⟩ : (Sl Int))⟩ : S_laws_Node), enc_bo, fun _ => true⟩ | _ => none
theorem hpc_laws_FnExactCrashNode (fu : Nat) : ∀ f xs o, pcf_laws_FnExactCrashNode fu f xs = some o → ∀ y, o.x = some y → Good E Try.prog f xs (o.g y) := by
  intro f xs o h
  unfold pcf_laws_FnExactCrashNode at h
  split at h
  · exact good_laws_eqNodeResult fu xs o h
  · exact good_laws_heldNodeResult fu xs o h
  · exact good_laws_szNode fu xs o h
  · exact good_laws_eqNode fu xs o h
  · cases h
theorem hpx_laws_FnExactCrashNode (fu : Nat) : ∀ f xs ins o, pcx_laws_FnExactCrashNode fu f xs ins = some o → ∀ y, o.x = some y → GoodX E Try.prog f xs ins (o.g y).1 (o.g y).2 := by
  intro f xs ins o h
  unfold pcx_laws_FnExactCrashNode at h
  split at h
  · exact good_laws_markNodeResult_L fu xs ins o h
  · exact good_spec_CrashNode_H fu xs ins o h
  · exact good_laws_toNode_H fu xs ins o h
  · exact good_impl_CrashNode_H fu xs ins o h
  · exact good_laws_markNode_L fu xs ins o h
  · cases h
theorem goodv_laws_FnExactCrashNode (fu : Nat) (aN_0 : S_laws_Node) (y : Bool) (hy : F_laws_FnExactCrashNode fu aN_0 = some y) : Good E Try.prog 6 [(.agg [(.int .i64 aN_0.Id), (.int .i64 aN_0.Peers), (.int .i64 aN_0.Term), (.int .i64 aN_0.Voted), (.rs aN_0.Log.z .laws_Entry aN_0.Log.n aN_0.Log.f), (.int .i64 aN_0.Role), (.int .i64 aN_0.Commit), (.rs aN_0.Votes.z .i64 aN_0.Votes.n aN_0.Votes.f), (.rs aN_0.Next.z .i64 aN_0.Next.n aN_0.Next.f), (.rs aN_0.Match.z .i64 aN_0.Match.n aN_0.Match.f)])] (enc_bo y) :=
  fun_good E_ok (pc_good (pc := pc_laws_FnExactCrashNode fu) (hpc_laws_FnExactCrashNode fu) (hpx_laws_FnExactCrashNode fu)) (fn := Try.f6) (c := body_laws_FnExactCrashNode) (out := out_bo) (y := y) (by kernel_rfl) (by kernel_rfl) (by kernel_rfl) (lpok_laws_FnExactCrashNode fu) (fun d hd => out_bo_enc d _ hd) ((ev_laws_FnExactCrashNode fu aN_0).trans hy)
theorem good_laws_FnExactCrashNode (fu : Nat) : ∀ xs o, S_laws_FnExactCrashNode fu xs = some o → ∀ y, o.x = some y → Good E Try.prog 6 xs (o.g y) := by
  intro xs o h y hy
  unfold S_laws_FnExactCrashNode at h
  split at h
  · rename_i a0_1 a0_2 a0_3 a0_4 za0_5 na0_5 fa0_5 a0_6 a0_7 za0_8 na0_8 fa0_8 za0_9 na0_9 fa0_9 za0_10 na0_10 fa0_10
    cases h
    exact goodv_laws_FnExactCrashNode fu (⟨a0_1, a0_2, a0_3, a0_4, (⟨za0_5, na0_5, fa0_5⟩ : (Sl S_laws_Entry)), a0_6, a0_7, (⟨za0_8, na0_8, fa0_8⟩ : (Sl Int)), (⟨za0_9, na0_9, fa0_9⟩ : (Sl Int)), (⟨za0_10, na0_10, fa0_10⟩ : (Sl Int))⟩ : S_laws_Node) y hy
  · cases h
end Go.Proofs.Ytmdjkdgjmbfegaa.Pc
