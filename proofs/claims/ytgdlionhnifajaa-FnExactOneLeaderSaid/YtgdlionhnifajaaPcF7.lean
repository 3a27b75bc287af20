/- The functions' evaluated forms, each a proved summary. Conditions: none. -/
import Derived.Test.YtgdlionhnifajaaPcF6
namespace Go.Proofs.Ytgdlionhnifajaa.Pc
open Go Go.RowKit Go.Proofs Vm
set_option linter.unusedVariables false
set_option linter.unusedSimpArgs false
set_option maxRecDepth 100000
/-! (*impl.Cluster).leadersHave -/
def F_impl_Cluster_leadersHave_B2 {ρ : Type} (fu : Nat) (c0_0 : (Sl S_impl_Node)) (c0_1 : (Sl S_impl_Mail)) (c0_2 : (Sl S_impl_Won)) (c0_3 : (Sl S_impl_Seal)) (t10_4 : (Sl S_impl_Node)) (t11_5 : Int) (t12_6 : Int) (t22_7 : (Sl S_impl_Seal)) (t23_8 : Int) (o0_10 : Int) (o0_11 : Int) (o0_12 : Int) (o0_13 : Int) (o0_14 : (Sl S_impl_Entry)) (o0_15 : Int) (o0_16 : Int) (o0_17 : (Sl Int)) (o0_18 : (Sl Int)) (o0_19 : (Sl Int)) (k0 : Int → Int → Int → Int → Int → Int → Int → Int → Int → Int → Option ρ) (k1 : Option ρ) (t24_9 : Int) (go : Int → Option ρ) : Option ρ :=
  (bif (decide (t24_9 < t23_8)) then ((bif (decide (0 ≤ t24_9) && decide ((Int.toNat t24_9) < t22_7.n)) then some () else none : Option Unit).bind fun _ => (((bif (decide ((t22_7.f (Int.toNat t24_9)).Term ≤ o0_12)) then
    (bif (decide (t24_9 ≥ ((o0_14.n : Nat) : Int))) then (some true) else ((bif (decide (0 ≤ t24_9) && decide ((Int.toNat t24_9) < o0_14.n)) then some () else none : Option Unit).bind fun _ =>
    (some (!(((o0_14.f (Int.toNat t24_9)).Term == (t22_7.f (Int.toNat t24_9)).Entry.Term) && (((o0_14.f (Int.toNat t24_9)).Client == (t22_7.f (Int.toNat t24_9)).Entry.Client) &&
    (((o0_14.f (Int.toNat t24_9)).Seq == (t22_7.f (Int.toNat t24_9)).Entry.Seq) && (((o0_14.f (Int.toNat t24_9)).Cmd.Kind == (t22_7.f (Int.toNat t24_9)).Entry.Cmd.Kind) &&
    (((o0_14.f (Int.toNat t24_9)).Cmd.Expect == (t22_7.f (Int.toNat t24_9)).Entry.Cmd.Expect) && (((o0_14.f (Int.toNat t24_9)).Cmd.Name == (t22_7.f (Int.toNat t24_9)).Entry.Cmd.Name) &&
    (((o0_14.f (Int.toNat t24_9)).Cmd.Addr == (t22_7.f (Int.toNat t24_9)).Entry.Cmd.Addr) && (((o0_14.f (Int.toNat t24_9)).Cmd.Number == (t22_7.f (Int.toNat t24_9)).Entry.Cmd.Number) &&
    (((o0_14.f (Int.toNat t24_9)).Cmd.Proto == (t22_7.f (Int.toNat t24_9)).Entry.Cmd.Proto) && true))))))))))))) else (some false)) : Option Bool).bind fun m419 => (bif m419 then
    (k0 (t22_7.f (Int.toNat t24_9)).Term (t22_7.f (Int.toNat t24_9)).Entry.Term (t22_7.f (Int.toNat t24_9)).Entry.Client (t22_7.f (Int.toNat t24_9)).Entry.Seq (t22_7.f (Int.toNat t24_9)).Entry.Cmd.Kind (t22_7.f (Int.toNat t24_9)).Entry.Cmd.Expect (t22_7.f (Int.toNat t24_9)).Entry.Cmd.Name (t22_7.f (Int.toNat t24_9)).Entry.Cmd.Addr (t22_7.f (Int.toNat t24_9)).Entry.Cmd.Number (t22_7.f (Int.toNat t24_9)).Entry.Cmd.Proto) else
    (go (IntKind.wrap .i64 (t24_9 + 1)))))) else k1)
def F_impl_Cluster_leadersHave_B0 {ρ : Type} (fu : Nat) (c0_0 : (Sl S_impl_Node)) (c0_1 : (Sl S_impl_Mail)) (c0_2 : (Sl S_impl_Won)) (c0_3 : (Sl S_impl_Seal)) (t10_4 : (Sl S_impl_Node)) (t11_5 : Int) (k0 : Int → Int → Int → Int → (Sl S_impl_Entry) → Int → Int → (Sl Int) → (Sl Int) → (Sl Int) → Int → Int → Int → Int → Int → Int → Int → Int → Int → Int → Option ρ) (k1 : Option ρ) (t12_6 : Int) (go : Int → Option ρ) : Option ρ :=
  (bif (decide (t12_6 < t11_5)) then ((bif (decide (0 ≤ t12_6) && decide ((Int.toNat t12_6) < t10_4.n)) then some () else none : Option Unit).bind fun _ => (bif ((t10_4.f (Int.toNat t12_6)).Role != 2) then
    (go (IntKind.wrap .i64 (t12_6 + 1))) else (L (fun w2 go2 => F_impl_Cluster_leadersHave_B2 fu c0_0 c0_1 c0_2 c0_3 t10_4 t11_5 t12_6 c0_3 ((c0_3.n : Nat) : Int) ((t10_4.f (Int.toNat t12_6)).Id) ((t10_4.f (Int.toNat t12_6)).Peers) ((t10_4.f (Int.toNat t12_6)).Term) ((t10_4.f (Int.toNat t12_6)).Voted) ((t10_4.f (Int.toNat t12_6)).Log) ((t10_4.f (Int.toNat t12_6)).Role) ((t10_4.f (Int.toNat t12_6)).Commit) ((t10_4.f (Int.toNat t12_6)).Votes) ((t10_4.f (Int.toNat t12_6)).Next) ((t10_4.f (Int.toNat t12_6)).Match) (fun z420 z421 z422 z423 z424 z425 z426 z427 z428 z429 =>
    (k0 (t10_4.f (Int.toNat t12_6)).Id (t10_4.f (Int.toNat t12_6)).Peers (t10_4.f (Int.toNat t12_6)).Term (t10_4.f (Int.toNat t12_6)).Voted (t10_4.f (Int.toNat t12_6)).Log (t10_4.f (Int.toNat t12_6)).Role (t10_4.f (Int.toNat t12_6)).Commit (t10_4.f (Int.toNat t12_6)).Votes (t10_4.f (Int.toNat t12_6)).Next (t10_4.f (Int.toNat t12_6)).Match z420 z421 z422 z423 z424 z425 z426 z427 z428 z429)) ((go (IntKind.wrap .i64 (t12_6 + 1)))) w2 go2) fu (0 : Int)))) else
    k1)
def F_impl_Cluster_leadersHave (fu : Nat) (c_0 : S_impl_Cluster) : Option (Bool) :=
  (L (fun w0 go0 => F_impl_Cluster_leadersHave_B0 fu c_0.Nodes c_0.Mails c_0.Wins c_0.Seals c_0.Nodes ((c_0.Nodes.n : Nat) : Int) (fun z430 z431 z432 z433 z434 z435 z436 z437 z438 z439 z440 z441 z442 z443 z444 z445 z446 z447 z448 z449 =>
    (some false)) (some true) w0 go0) fu (0 : Int))
def pc_impl_Cluster_leadersHave (fu : Nat) : Pc RT den := fun f xs => none
def msk_impl_Cluster_leadersHave (b : Nat) : List Nat := match b with | 0 => [1, 2, 3, 4, 5, 6, 7, 8, 9, 13, 14, 15, 16, 17, 18, 19, 20, 21, 22, 23, 24, 25, 26, 27, 28, 29, 30, 31, 32, 33, 34, 35, 36, 37, 38, 39, 40, 41, 42, 43, 44, 45, 46, 47, 48, 49, 50, 51, 52] | 100000 => [0, 1, 3, 4, 5, 6, 7, 8, 9, 10, 11, 12, 13, 14, 15, 16, 17, 18, 19, 20, 21, 22, 23, 24, 25, 26, 27, 28, 29, 30, 31, 32, 33, 34, 35, 36, 37, 38, 39, 40, 41, 42, 43, 44, 45, 46, 47, 48, 49, 50, 51, 52] | 2 => [1, 2, 3, 5, 6, 7, 8, 9, 13, 14, 15, 16, 17, 18, 19, 20, 21, 25, 26, 27, 28, 29, 30, 31, 32, 33, 34, 35, 36, 37, 38, 39, 40, 41, 42, 43, 44, 45, 46, 47, 48, 49, 50, 51, 52] | 100002 => [1, 3, 4, 5, 6, 7, 8, 9, 13, 14, 15, 16, 17, 18, 19, 20, 21, 22, 23, 24, 25, 26, 27, 28, 29, 30, 31, 32, 33, 34, 35, 36, 37, 38, 39, 40, 41, 42, 43, 44, 45, 46, 47, 48, 49, 50, 51, 52] | 200008 => [50] | _ => []
def ps_impl_Cluster_leadersHave_2 : List (Pat RT) := [.rptr [(.rs .impl_Node), (.rs .impl_Mail), (.rs .impl_Won), (.rs .impl_Seal)], .flat .dead, .flat .dead, .flat .dead, .flat (.ref 0 0), .flat .dead, .flat .dead, .flat .dead, .flat .dead, .flat .dead, .flat (.rs .impl_Node), .flat (.int .i64), .flat (.int .i64), .flat .dead, .flat .dead, .flat .dead, .flat .dead, .flat .dead, .flat .dead, .flat .dead, .flat .dead, .flat .dead, .flat (.rs .impl_Seal), .flat (.int .i64), .flat (.int .i64), .flat .dead, .flat .dead, .flat .dead, .flat .dead, .flat .dead, .flat .dead, .flat .dead, .flat .dead, .flat .dead, .flat .dead, .flat .dead, .flat .dead, .flat .dead, .flat .dead, .flat .dead, .flat .dead, .flat .dead, .flat .dead, .flat .dead, .flat .dead, .flat .dead, .flat .dead, .flat .dead, .flat .dead, .flat .dead, .flat .dead, .flat .dead, .flat .dead]
def os_impl_Cluster_leadersHave_2 : List (OP RT) := [.box [(.int .i64), (.int .i64), (.int .i64), (.int .i64), (.rs .impl_Entry), (.int .i64), (.int .i64), (.rs .i64), (.rs .i64), (.rs .i64)]]
def conv_impl_Cluster_leadersHave_2 (r : Raw den ps_impl_Cluster_leadersHave_2 os_impl_Cluster_leadersHave_2) : ((Sl S_impl_Node) × (Sl S_impl_Mail) × (Sl S_impl_Won) × (Sl S_impl_Seal) × (Sl S_impl_Node) × Int × Int × (Sl S_impl_Seal) × Int × Int × Int × Int × Int × (Sl S_impl_Entry) × Int × Int × (Sl Int) × (Sl Int) × (Sl Int)) × (Int) := ((r.1.1.1, r.1.1.2.1, r.1.1.2.2.1, r.1.1.2.2.2.1, r.1.2.2.2.2.2.2.2.2.2.2.1, r.1.2.2.2.2.2.2.2.2.2.2.2.1, r.1.2.2.2.2.2.2.2.2.2.2.2.2.1, r.1.2.2.2.2.2.2.2.2.2.2.2.2.2.2.2.2.2.2.2.2.2.2.1, r.1.2.2.2.2.2.2.2.2.2.2.2.2.2.2.2.2.2.2.2.2.2.2.2.1, r.2.1.1, r.2.1.2.1, r.2.1.2.2.1, r.2.1.2.2.2.1, r.2.1.2.2.2.2.1, r.2.1.2.2.2.2.2.1, r.2.1.2.2.2.2.2.2.1, r.2.1.2.2.2.2.2.2.2.1, r.2.1.2.2.2.2.2.2.2.2.1, r.2.1.2.2.2.2.2.2.2.2.2.1), r.1.2.2.2.2.2.2.2.2.2.2.2.2.2.2.2.2.2.2.2.2.2.2.2.2.1)
def back_impl_Cluster_leadersHave_2 (c : (Sl S_impl_Node) × (Sl S_impl_Mail) × (Sl S_impl_Won) × (Sl S_impl_Seal) × (Sl S_impl_Node) × Int × Int × (Sl S_impl_Seal) × Int × Int × Int × Int × Int × (Sl S_impl_Entry) × Int × Int × (Sl Int) × (Sl Int) × (Sl Int)) (w : Int) : St RT den := ⟨[(.rptr [(.rs c.1.z .impl_Node c.1.n c.1.f), (.rs c.2.1.z .impl_Mail c.2.1.n c.2.1.f), (.rs c.2.2.1.z .impl_Won c.2.2.1.n c.2.2.1.f), (.rs c.2.2.2.1.z .impl_Seal c.2.2.2.1.n c.2.2.2.1.f)]), .dead, .dead, .dead, (.ref 0 0), .dead, .dead, .dead, .dead, .dead, (.rs c.2.2.2.2.1.z .impl_Node c.2.2.2.2.1.n c.2.2.2.2.1.f), (.int .i64 c.2.2.2.2.2.1), (.int .i64 c.2.2.2.2.2.2.1), .dead, .dead, .dead, .dead, .dead, .dead, .dead, .dead, .dead, (.rs c.2.2.2.2.2.2.2.1.z .impl_Seal c.2.2.2.2.2.2.2.1.n c.2.2.2.2.2.2.2.1.f), (.int .i64 c.2.2.2.2.2.2.2.2.1), (.int .i64 w), .dead, .dead, .dead, .dead, .dead, .dead, .dead, .dead, .dead, .dead, .dead, .dead, .dead, .dead, .dead, .dead, .dead, .dead, .dead, .dead, .dead, .dead, .dead, .dead, .dead, .dead, .dead, .dead], [(.box [(.int .i64 c.2.2.2.2.2.2.2.2.2.1), (.int .i64 c.2.2.2.2.2.2.2.2.2.2.1), (.int .i64 c.2.2.2.2.2.2.2.2.2.2.2.1), (.int .i64 c.2.2.2.2.2.2.2.2.2.2.2.2.1), (.rs c.2.2.2.2.2.2.2.2.2.2.2.2.2.1.z .impl_Entry c.2.2.2.2.2.2.2.2.2.2.2.2.2.1.n c.2.2.2.2.2.2.2.2.2.2.2.2.2.1.f), (.int .i64 c.2.2.2.2.2.2.2.2.2.2.2.2.2.2.1), (.int .i64 c.2.2.2.2.2.2.2.2.2.2.2.2.2.2.2.1), (.rs c.2.2.2.2.2.2.2.2.2.2.2.2.2.2.2.2.1.z .i64 c.2.2.2.2.2.2.2.2.2.2.2.2.2.2.2.2.1.n c.2.2.2.2.2.2.2.2.2.2.2.2.2.2.2.2.1.f), (.rs c.2.2.2.2.2.2.2.2.2.2.2.2.2.2.2.2.2.1.z .i64 c.2.2.2.2.2.2.2.2.2.2.2.2.2.2.2.2.2.1.n c.2.2.2.2.2.2.2.2.2.2.2.2.2.2.2.2.2.1.f), (.rs c.2.2.2.2.2.2.2.2.2.2.2.2.2.2.2.2.2.2.z .i64 c.2.2.2.2.2.2.2.2.2.2.2.2.2.2.2.2.2.2.n c.2.2.2.2.2.2.2.2.2.2.2.2.2.2.2.2.2.2.f)])]⟩
def Bk_impl_Cluster_leadersHave_2 {ρ : Type} (fu : Nat) (c : (Sl S_impl_Node) × (Sl S_impl_Mail) × (Sl S_impl_Won) × (Sl S_impl_Seal) × (Sl S_impl_Node) × Int × Int × (Sl S_impl_Seal) × Int × Int × Int × Int × Int × (Sl S_impl_Entry) × Int × Int × (Sl Int) × (Sl Int) × (Sl Int)) (k : Ex → St RT den → Option ρ) (w : Int) (go : (Int) → Option ρ) : Option ρ := F_impl_Cluster_leadersHave_B2 fu c.1 c.2.1 c.2.2.1 c.2.2.2.1 c.2.2.2.2.1 c.2.2.2.2.2.1 c.2.2.2.2.2.2.1 c.2.2.2.2.2.2.2.1 c.2.2.2.2.2.2.2.2.1 c.2.2.2.2.2.2.2.2.2.1 c.2.2.2.2.2.2.2.2.2.2.1 c.2.2.2.2.2.2.2.2.2.2.2.1 c.2.2.2.2.2.2.2.2.2.2.2.2.1 c.2.2.2.2.2.2.2.2.2.2.2.2.2.1 c.2.2.2.2.2.2.2.2.2.2.2.2.2.2.1 c.2.2.2.2.2.2.2.2.2.2.2.2.2.2.2.1 c.2.2.2.2.2.2.2.2.2.2.2.2.2.2.2.2.1 c.2.2.2.2.2.2.2.2.2.2.2.2.2.2.2.2.2.1 c.2.2.2.2.2.2.2.2.2.2.2.2.2.2.2.2.2.2 (fun a0 a1 a2 a3 a4 a5 a6 a7 a8 a9 => k .ret ⟨[(.rptr [(.rs c.1.z .impl_Node c.1.n c.1.f), (.rs c.2.1.z .impl_Mail c.2.1.n c.2.1.f), (.rs c.2.2.1.z .impl_Won c.2.2.1.n c.2.2.1.f), (.rs c.2.2.2.1.z .impl_Seal c.2.2.2.1.n c.2.2.2.1.f)]), .dead, (.bool false), .dead, .dead, .dead, .dead, .dead, .dead, .dead, (.rs c.2.2.2.2.1.z .impl_Node c.2.2.2.2.1.n c.2.2.2.2.1.f), (.int .i64 c.2.2.2.2.2.1), (.int .i64 c.2.2.2.2.2.2.1), .dead, .dead, .dead, .dead, .dead, .dead, .dead, .dead, .dead, .dead, .dead, .dead, .dead, .dead, .dead, .dead, .dead, .dead, .dead, .dead, .dead, .dead, .dead, .dead, .dead, .dead, .dead, .dead, .dead, .dead, .dead, .dead, .dead, .dead, .dead, .dead, .dead, .dead, .dead, .dead], [(.box [(.int .i64 c.2.2.2.2.2.2.2.2.2.1), (.int .i64 c.2.2.2.2.2.2.2.2.2.2.1), (.int .i64 c.2.2.2.2.2.2.2.2.2.2.2.1), (.int .i64 c.2.2.2.2.2.2.2.2.2.2.2.2.1), (.rs c.2.2.2.2.2.2.2.2.2.2.2.2.2.1.z .impl_Entry c.2.2.2.2.2.2.2.2.2.2.2.2.2.1.n c.2.2.2.2.2.2.2.2.2.2.2.2.2.1.f), (.int .i64 c.2.2.2.2.2.2.2.2.2.2.2.2.2.2.1), (.int .i64 c.2.2.2.2.2.2.2.2.2.2.2.2.2.2.2.1), (.rs c.2.2.2.2.2.2.2.2.2.2.2.2.2.2.2.2.1.z .i64 c.2.2.2.2.2.2.2.2.2.2.2.2.2.2.2.2.1.n c.2.2.2.2.2.2.2.2.2.2.2.2.2.2.2.2.1.f), (.rs c.2.2.2.2.2.2.2.2.2.2.2.2.2.2.2.2.2.1.z .i64 c.2.2.2.2.2.2.2.2.2.2.2.2.2.2.2.2.2.1.n c.2.2.2.2.2.2.2.2.2.2.2.2.2.2.2.2.2.1.f), (.rs c.2.2.2.2.2.2.2.2.2.2.2.2.2.2.2.2.2.2.z .i64 c.2.2.2.2.2.2.2.2.2.2.2.2.2.2.2.2.2.2.n c.2.2.2.2.2.2.2.2.2.2.2.2.2.2.2.2.2.2.f)]), (.box [(.int .i64 a0), (.int .i64 a1), (.int .i64 a2), (.int .i64 a3), (.int .i64 a4), (.int .i64 a5), (.int .i64 a6), (.int .i64 a7), (.int .i64 a8), (.int .i64 a9)])]⟩) (k (.exit 2) ⟨[(.rptr [(.rs c.1.z .impl_Node c.1.n c.1.f), (.rs c.2.1.z .impl_Mail c.2.1.n c.2.1.f), (.rs c.2.2.1.z .impl_Won c.2.2.1.n c.2.2.1.f), (.rs c.2.2.2.1.z .impl_Seal c.2.2.2.1.n c.2.2.2.1.f)]), .dead, .dead, .dead, .dead, .dead, .dead, .dead, .dead, .dead, (.rs c.2.2.2.2.1.z .impl_Node c.2.2.2.2.1.n c.2.2.2.2.1.f), (.int .i64 c.2.2.2.2.2.1), (.int .i64 c.2.2.2.2.2.2.1), .dead, .dead, .dead, .dead, .dead, .dead, .dead, .dead, .dead, .dead, .dead, .dead, .dead, .dead, .dead, .dead, .dead, .dead, .dead, .dead, .dead, .dead, .dead, .dead, .dead, .dead, .dead, .dead, .dead, .dead, .dead, .dead, .dead, .dead, .dead, .dead, .dead, .dead, .dead, .dead], [(.box [(.int .i64 c.2.2.2.2.2.2.2.2.2.1), (.int .i64 c.2.2.2.2.2.2.2.2.2.2.1), (.int .i64 c.2.2.2.2.2.2.2.2.2.2.2.1), (.int .i64 c.2.2.2.2.2.2.2.2.2.2.2.2.1), (.rs c.2.2.2.2.2.2.2.2.2.2.2.2.2.1.z .impl_Entry c.2.2.2.2.2.2.2.2.2.2.2.2.2.1.n c.2.2.2.2.2.2.2.2.2.2.2.2.2.1.f), (.int .i64 c.2.2.2.2.2.2.2.2.2.2.2.2.2.2.1), (.int .i64 c.2.2.2.2.2.2.2.2.2.2.2.2.2.2.2.1), (.rs c.2.2.2.2.2.2.2.2.2.2.2.2.2.2.2.2.1.z .i64 c.2.2.2.2.2.2.2.2.2.2.2.2.2.2.2.2.1.n c.2.2.2.2.2.2.2.2.2.2.2.2.2.2.2.2.1.f), (.rs c.2.2.2.2.2.2.2.2.2.2.2.2.2.2.2.2.2.1.z .i64 c.2.2.2.2.2.2.2.2.2.2.2.2.2.2.2.2.2.1.n c.2.2.2.2.2.2.2.2.2.2.2.2.2.2.2.2.2.1.f), (.rs c.2.2.2.2.2.2.2.2.2.2.2.2.2.2.2.2.2.2.z .i64 c.2.2.2.2.2.2.2.2.2.2.2.2.2.2.2.2.2.2.n c.2.2.2.2.2.2.2.2.2.2.2.2.2.2.2.2.2.2.f)])]⟩) w go
def ps_impl_Cluster_leadersHave_0 : List (Pat RT) := [.rptr [(.rs .impl_Node), (.rs .impl_Mail), (.rs .impl_Won), (.rs .impl_Seal)], .flat .dead, .flat .dead, .flat .dead, .flat .dead, .flat .dead, .flat .dead, .flat .dead, .flat .dead, .flat .dead, .flat (.rs .impl_Node), .flat (.int .i64), .flat (.int .i64), .flat .dead, .flat .dead, .flat .dead, .flat .dead, .flat .dead, .flat .dead, .flat .dead, .flat .dead, .flat .dead, .flat .dead, .flat .dead, .flat .dead, .flat .dead, .flat .dead, .flat .dead, .flat .dead, .flat .dead, .flat .dead, .flat .dead, .flat .dead, .flat .dead, .flat .dead, .flat .dead, .flat .dead, .flat .dead, .flat .dead, .flat .dead, .flat .dead, .flat .dead, .flat .dead, .flat .dead, .flat .dead, .flat .dead, .flat .dead, .flat .dead, .flat .dead, .flat .dead, .flat .dead, .flat .dead, .flat .dead]
def os_impl_Cluster_leadersHave_0 : List (OP RT) := []
def conv_impl_Cluster_leadersHave_0 (r : Raw den ps_impl_Cluster_leadersHave_0 os_impl_Cluster_leadersHave_0) : ((Sl S_impl_Node) × (Sl S_impl_Mail) × (Sl S_impl_Won) × (Sl S_impl_Seal) × (Sl S_impl_Node) × Int) × (Int) := ((r.1.1.1, r.1.1.2.1, r.1.1.2.2.1, r.1.1.2.2.2.1, r.1.2.2.2.2.2.2.2.2.2.2.1, r.1.2.2.2.2.2.2.2.2.2.2.2.1), r.1.2.2.2.2.2.2.2.2.2.2.2.2.1)
def back_impl_Cluster_leadersHave_0 (c : (Sl S_impl_Node) × (Sl S_impl_Mail) × (Sl S_impl_Won) × (Sl S_impl_Seal) × (Sl S_impl_Node) × Int) (w : Int) : St RT den := ⟨[(.rptr [(.rs c.1.z .impl_Node c.1.n c.1.f), (.rs c.2.1.z .impl_Mail c.2.1.n c.2.1.f), (.rs c.2.2.1.z .impl_Won c.2.2.1.n c.2.2.1.f), (.rs c.2.2.2.1.z .impl_Seal c.2.2.2.1.n c.2.2.2.1.f)]), .dead, .dead, .dead, .dead, .dead, .dead, .dead, .dead, .dead, (.rs c.2.2.2.2.1.z .impl_Node c.2.2.2.2.1.n c.2.2.2.2.1.f), (.int .i64 c.2.2.2.2.2), (.int .i64 w), .dead, .dead, .dead, .dead, .dead, .dead, .dead, .dead, .dead, .dead, .dead, .dead, .dead, .dead, .dead, .dead, .dead, .dead, .dead, .dead, .dead, .dead, .dead, .dead, .dead, .dead, .dead, .dead, .dead, .dead, .dead, .dead, .dead, .dead, .dead, .dead, .dead, .dead, .dead, .dead], []⟩
def Bk_impl_Cluster_leadersHave_0 {ρ : Type} (fu : Nat) (c : (Sl S_impl_Node) × (Sl S_impl_Mail) × (Sl S_impl_Won) × (Sl S_impl_Seal) × (Sl S_impl_Node) × Int) (k : Ex → St RT den → Option ρ) (w : Int) (go : (Int) → Option ρ) : Option ρ := F_impl_Cluster_leadersHave_B0 fu c.1 c.2.1 c.2.2.1 c.2.2.2.1 c.2.2.2.2.1 c.2.2.2.2.2 (fun a0 a1 a2 a3 a4 a5 a6 a7 a8 a9 a10 a11 a12 a13 a14 a15 a16 a17 a18 a19 => k .ret ⟨[.dead, .dead, (.bool false), .dead, .dead, .dead, .dead, .dead, .dead, .dead, .dead, .dead, .dead, .dead, .dead, .dead, .dead, .dead, .dead, .dead, .dead, .dead, .dead, .dead, .dead, .dead, .dead, .dead, .dead, .dead, .dead, .dead, .dead, .dead, .dead, .dead, .dead, .dead, .dead, .dead, .dead, .dead, .dead, .dead, .dead, .dead, .dead, .dead, .dead, .dead, .dead, .dead, .dead], [(.box [(.int .i64 a0), (.int .i64 a1), (.int .i64 a2), (.int .i64 a3), (.rs a4.z .impl_Entry a4.n a4.f), (.int .i64 a5), (.int .i64 a6), (.rs a7.z .i64 a7.n a7.f), (.rs a8.z .i64 a8.n a8.f), (.rs a9.z .i64 a9.n a9.f)]), (.box [(.int .i64 a10), (.int .i64 a11), (.int .i64 a12), (.int .i64 a13), (.int .i64 a14), (.int .i64 a15), (.int .i64 a16), (.int .i64 a17), (.int .i64 a18), (.int .i64 a19)])]⟩) (k (.exit 0) ⟨[.dead, .dead, .dead, .dead, .dead, .dead, .dead, .dead, .dead, .dead, .dead, .dead, .dead, .dead, .dead, .dead, .dead, .dead, .dead, .dead, .dead, .dead, .dead, .dead, .dead, .dead, .dead, .dead, .dead, .dead, .dead, .dead, .dead, .dead, .dead, .dead, .dead, .dead, .dead, .dead, .dead, .dead, .dead, .dead, .dead, .dead, .dead, .dead, .dead, .dead, .dead, .dead, .dead], []⟩) w go
def lp_impl_Cluster_leadersHave (fu : Nat) : Lp RT den (Bool) := fun b s k => match b with | 0 => handle ps_impl_Cluster_leadersHave_0 os_impl_Cluster_leadersHave_0 conv_impl_Cluster_leadersHave_0 (Bk_impl_Cluster_leadersHave_0 fu) fu s k | 2 => handle ps_impl_Cluster_leadersHave_2 os_impl_Cluster_leadersHave_2 conv_impl_Cluster_leadersHave_2 (Bk_impl_Cluster_leadersHave_2 fu) fu s k | _ => none
theorem ev_impl_Cluster_leadersHave (fu : Nat) (c_0 : S_impl_Cluster) : evFun E (pc_impl_Cluster_leadersHave fu) msk_impl_Cluster_leadersHave (lp_impl_Cluster_leadersHave fu) out_b 63 [(.rptr [(.rs c_0.Nodes.z .impl_Node c_0.Nodes.n c_0.Nodes.f), (.rs c_0.Mails.z .impl_Mail c_0.Mails.n c_0.Mails.f), (.rs c_0.Wins.z .impl_Won c_0.Wins.n c_0.Wins.f), (.rs c_0.Seals.z .impl_Seal c_0.Seals.n c_0.Seals.f)])] = F_impl_Cluster_leadersHave fu c_0 := by kernel_rfl
noncomputable def body_impl_Cluster_leadersHave : Code := Try.f63.body.getD .skip
noncomputable def lc_impl_Cluster_leadersHave_0 : Code := ((loops 0 body_impl_Cluster_leadersHave).getD 0 (0, .skip)).2
theorem round_impl_Cluster_leadersHave_0 (fu : Nat) (it : St RT den → Option (Bool)) (k : Ex → St RT den → Option (Bool)) c w : evCode E (pc_impl_Cluster_leadersHave fu) msk_impl_Cluster_leadersHave (lp_impl_Cluster_leadersHave fu) 0 lc_impl_Cluster_leadersHave_0 (back_impl_Cluster_leadersHave_0 c w) (after (msk_impl_Cluster_leadersHave 0) (msk_impl_Cluster_leadersHave 100000) 0 it k) = Bk_impl_Cluster_leadersHave_0 fu c k w (fun w => it (back_impl_Cluster_leadersHave_0 c w)) := by kernel_rfl
theorem lpok_impl_Cluster_leadersHave_0 (fu : Nat) : ∀ s k r, lp_impl_Cluster_leadersHave fu 0 s k = some r → ∃ fuel, iter (msk_impl_Cluster_leadersHave 0) (msk_impl_Cluster_leadersHave 100000) s.objs.length (evCode E (pc_impl_Cluster_leadersHave fu) msk_impl_Cluster_leadersHave (lp_impl_Cluster_leadersHave fu) 0 lc_impl_Cluster_leadersHave_0) fuel s k = some r :=
  handle_ok (ps := ps_impl_Cluster_leadersHave_0) (os := os_impl_Cluster_leadersHave_0) (conv := conv_impl_Cluster_leadersHave_0) (B := Bk_impl_Cluster_leadersHave_0 fu) (fu := fu) back_impl_Cluster_leadersHave_0 (fun raw => by kernel_rfl) 0 (fun c w => by kernel_rfl) (round_impl_Cluster_leadersHave_0 fu)
noncomputable def lc_impl_Cluster_leadersHave_2 : Code := ((loops 0 body_impl_Cluster_leadersHave).getD 1 (0, .skip)).2
theorem round_impl_Cluster_leadersHave_2 (fu : Nat) (it : St RT den → Option (Bool)) (k : Ex → St RT den → Option (Bool)) c w : evCode E (pc_impl_Cluster_leadersHave fu) msk_impl_Cluster_leadersHave (lp_impl_Cluster_leadersHave fu) 2 lc_impl_Cluster_leadersHave_2 (back_impl_Cluster_leadersHave_2 c w) (after (msk_impl_Cluster_leadersHave 2) (msk_impl_Cluster_leadersHave 100002) 1 it k) = Bk_impl_Cluster_leadersHave_2 fu c k w (fun w => it (back_impl_Cluster_leadersHave_2 c w)) := by kernel_rfl
theorem lpok_impl_Cluster_leadersHave_2 (fu : Nat) : ∀ s k r, lp_impl_Cluster_leadersHave fu 2 s k = some r → ∃ fuel, iter (msk_impl_Cluster_leadersHave 2) (msk_impl_Cluster_leadersHave 100002) s.objs.length (evCode E (pc_impl_Cluster_leadersHave fu) msk_impl_Cluster_leadersHave (lp_impl_Cluster_leadersHave fu) 2 lc_impl_Cluster_leadersHave_2) fuel s k = some r :=
  handle_ok (ps := ps_impl_Cluster_leadersHave_2) (os := os_impl_Cluster_leadersHave_2) (conv := conv_impl_Cluster_leadersHave_2) (B := Bk_impl_Cluster_leadersHave_2 fu) (fu := fu) back_impl_Cluster_leadersHave_2 (fun raw => by kernel_rfl) 1 (fun c w => by kernel_rfl) (round_impl_Cluster_leadersHave_2 fu)
theorem lpok_impl_Cluster_leadersHave (fu : Nat) : LpOk E (pc_impl_Cluster_leadersHave fu) msk_impl_Cluster_leadersHave (lp_impl_Cluster_leadersHave fu) (loops 0 body_impl_Cluster_leadersHave) := loop_all 2 (by kernel_rfl) fun i hi => match i, hi with
  | 0, _ => by
    have h : (loops 0 body_impl_Cluster_leadersHave).getD 0 (0, .skip) = (0, lc_impl_Cluster_leadersHave_0) := by kernel_rfl
    rw [h]; exact lpok_impl_Cluster_leadersHave_0 fu
  | 1, _ => by
    have h : (loops 0 body_impl_Cluster_leadersHave).getD 1 (0, .skip) = (2, lc_impl_Cluster_leadersHave_2) := by kernel_rfl
    rw [h]; exact lpok_impl_Cluster_leadersHave_2 fu
  | i + 2, hi => absurd hi (by omega)
def S_impl_Cluster_leadersHave (fu : Nat) (xs : List (D RT den)) : Option (Out RT den) := match xs with | [.rptr [.rs za0_1 .impl_Node na0_1 fa0_1, .rs za0_2 .impl_Mail na0_2 fa0_2, .rs za0_3 .impl_Won na0_3 fa0_3, .rs za0_4 .impl_Seal na0_4 fa0_4]] => some ⟨Bool, F_impl_Cluster_leadersHave fu (⟨(⟨za0_1, na0_1, fa0_1⟩ : (Sl S_impl_Node)), (⟨za0_2, na0_2, fa0_2⟩ : (Sl S_impl_Mail)), (⟨za0_3, na0_3, fa0_3⟩ : (Sl S_impl_Won)), (⟨za0_4, na0_4, fa0_4⟩ : (Sl S_impl_Seal))⟩ : S_impl_Cluster), enc_b, fun _ => true⟩ | _ => none
theorem hpc_impl_Cluster_leadersHave (fu : Nat) : ∀ f xs o, pc_impl_Cluster_leadersHave fu f xs = some o → ∀ y, o.x = some y → Good E Try.prog f xs (o.g y) := by
  intro f xs o h
  cases h
theorem goodv_impl_Cluster_leadersHave (fu : Nat) (c_0 : S_impl_Cluster) (y : Bool) (hy : F_impl_Cluster_leadersHave fu c_0 = some y) : Good E Try.prog 63 [(.rptr [(.rs c_0.Nodes.z .impl_Node c_0.Nodes.n c_0.Nodes.f), (.rs c_0.Mails.z .impl_Mail c_0.Mails.n c_0.Mails.f), (.rs c_0.Wins.z .impl_Won c_0.Wins.n c_0.Wins.f), (.rs c_0.Seals.z .impl_Seal c_0.Seals.n c_0.Seals.f)])] (enc_b y) :=
  fun_good E_ok (pc_good (hpc_impl_Cluster_leadersHave fu)) (fn := Try.f63) (c := body_impl_Cluster_leadersHave) (out := out_b) (y := y) (by kernel_rfl) (by kernel_rfl) (by kernel_rfl) (lpok_impl_Cluster_leadersHave fu) (fun d hd => out_b_enc d _ hd) ((ev_impl_Cluster_leadersHave fu c_0).trans hy)
theorem good_impl_Cluster_leadersHave (fu : Nat) : ∀ xs o, S_impl_Cluster_leadersHave fu xs = some o → ∀ y, o.x = some y → Good E Try.prog 63 xs (o.g y) := by
  intro xs o h y hy
  unfold S_impl_Cluster_leadersHave at h
  split at h
  · rename_i za0_1 na0_1 fa0_1 za0_2 na0_2 fa0_2 za0_3 na0_3 fa0_3 za0_4 na0_4 fa0_4
    cases h
    exact goodv_impl_Cluster_leadersHave fu (⟨(⟨za0_1, na0_1, fa0_1⟩ : (Sl S_impl_Node)), (⟨za0_2, na0_2, fa0_2⟩ : (Sl S_impl_Mail)), (⟨za0_3, na0_3, fa0_3⟩ : (Sl S_impl_Won)), (⟨za0_4, na0_4, fa0_4⟩ : (Sl S_impl_Seal))⟩ : S_impl_Cluster) y hy
  · cases h

/-! impl.LeadersHave -/
def F_impl_LeadersHave (fu : Nat) (c_0 : S_impl_Cluster) : Option (Bool) :=
  ((((F_impl_ClusterFault fu c_0).bind fun y416 => (bif (y416 == 0) then ((F_impl_Cluster_leadersHave fu c_0).bind fun y417 => (some y417)) else (some false))) : Option Bool).bind fun m418 =>
    (some m418))
def pc_impl_LeadersHave (fu : Nat) : Pc RT den := fun f xs => match f with | 23 => S_impl_ClusterFault fu xs | 63 => S_impl_Cluster_leadersHave fu xs | _ => none
def msk_impl_LeadersHave (b : Nat) : List Nat := match b with | 200001 => [2] | _ => []
def lp_impl_LeadersHave (fu : Nat) : Lp RT den (Bool) := fun b s k => none
theorem ev_impl_LeadersHave (fu : Nat) (c_0 : S_impl_Cluster) : evFun E (pc_impl_LeadersHave fu) msk_impl_LeadersHave (lp_impl_LeadersHave fu) out_b 28 [(.agg [(.rs c_0.Nodes.z .impl_Node c_0.Nodes.n c_0.Nodes.f), (.rs c_0.Mails.z .impl_Mail c_0.Mails.n c_0.Mails.f), (.rs c_0.Wins.z .impl_Won c_0.Wins.n c_0.Wins.f), (.rs c_0.Seals.z .impl_Seal c_0.Seals.n c_0.Seals.f)])] = F_impl_LeadersHave fu c_0 := by kernel_rfl
noncomputable def body_impl_LeadersHave : Code := Try.f28.body.getD .skip
theorem lpok_impl_LeadersHave (fu : Nat) : LpOk E (pc_impl_LeadersHave fu) msk_impl_LeadersHave (lp_impl_LeadersHave fu) (loops 0 body_impl_LeadersHave) := by
  have h : loops 0 body_impl_LeadersHave = [] := by kernel_rfl
  rw [h]; intro p hp; cases hp
def S_impl_LeadersHave (fu : Nat) (xs : List (D RT den)) : Option (Out RT den) := match xs with | [.agg [.rs za0_1 .impl_Node na0_1 fa0_1, .rs za0_2 .impl_Mail na0_2 fa0_2, .rs za0_3 .impl_Won na0_3 fa0_3, .rs za0_4 .impl_Seal na0_4 fa0_4]] => some ⟨Bool, F_impl_LeadersHave fu (⟨(⟨za0_1, na0_1, fa0_1⟩ : (Sl S_impl_Node)), (⟨za0_2, na0_2, fa0_2⟩ : (Sl S_impl_Mail)), (⟨za0_3, na0_3, fa0_3⟩ : (Sl S_impl_Won)), (⟨za0_4, na0_4, fa0_4⟩ : (Sl S_impl_Seal))⟩ : S_impl_Cluster), enc_b, fun _ => true⟩ | _ => none
theorem hpc_impl_LeadersHave (fu : Nat) : ∀ f xs o, pc_impl_LeadersHave fu f xs = some o → ∀ y, o.x = some y → Good E Try.prog f xs (o.g y) := by
  intro f xs o h
  unfold pc_impl_LeadersHave at h
  split at h
  · exact good_impl_ClusterFault fu xs o h
  · exact good_impl_Cluster_leadersHave fu xs o h
  · cases h
theorem goodv_impl_LeadersHave (fu : Nat) (c_0 : S_impl_Cluster) (y : Bool) (hy : F_impl_LeadersHave fu c_0 = some y) : Good E Try.prog 28 [(.agg [(.rs c_0.Nodes.z .impl_Node c_0.Nodes.n c_0.Nodes.f), (.rs c_0.Mails.z .impl_Mail c_0.Mails.n c_0.Mails.f), (.rs c_0.Wins.z .impl_Won c_0.Wins.n c_0.Wins.f), (.rs c_0.Seals.z .impl_Seal c_0.Seals.n c_0.Seals.f)])] (enc_b y) :=
  fun_good E_ok (pc_good (hpc_impl_LeadersHave fu)) (fn := Try.f28) (c := body_impl_LeadersHave) (out := out_b) (y := y) (by kernel_rfl) (by kernel_rfl) (by kernel_rfl) (lpok_impl_LeadersHave fu) (fun d hd => out_b_enc d _ hd) ((ev_impl_LeadersHave fu c_0).trans hy)
theorem good_impl_LeadersHave (fu : Nat) : ∀ xs o, S_impl_LeadersHave fu xs = some o → ∀ y, o.x = some y → Good E Try.prog 28 xs (o.g y) := by
  intro xs o h y hy
  unfold S_impl_LeadersHave at h
  split at h
  · rename_i za0_1 na0_1 fa0_1 za0_2 na0_2 fa0_2 za0_3 na0_3 fa0_3 za0_4 na0_4 fa0_4
    cases h
    exact goodv_impl_LeadersHave fu (⟨(⟨za0_1, na0_1, fa0_1⟩ : (Sl S_impl_Node)), (⟨za0_2, na0_2, fa0_2⟩ : (Sl S_impl_Mail)), (⟨za0_3, na0_3, fa0_3⟩ : (Sl S_impl_Won)), (⟨za0_4, na0_4, fa0_4⟩ : (Sl S_impl_Seal))⟩ : S_impl_Cluster) y hy
  · cases h

/-! laws.FnExactLeadersHave -/
def F_laws_FnExactLeadersHave (fu : Nat) (aC_0 : S_laws_Cluster) : Option (Bool) :=
  ((F_laws_szCluster fu aC_0 1048576).bind fun y405 => (bif (decide (y405 < 0)) then (some true) else ((F_laws_toCluster fu aC_0).bind fun y406 => ((F_spec_LeadersHave fu y406).bind fun y407 =>
    ((F_laws_toCluster fu aC_0).bind fun y408 => ((F_impl_LeadersHave fu y408).bind fun y409 => (bif (!(y409 == y407)) then (some false) else ((F_laws_toCluster fu aC_0).bind fun y410 =>
    ((F_laws_eqCluster fu y408 y410).bind fun y411 => (bif (!y411) then (some false) else (some true)))))))))))
def pc_laws_FnExactLeadersHave (fu : Nat) : Pc RT den := fun f xs => match f with | 20 => S_laws_szCluster fu xs | 22 => S_laws_toCluster fu xs | 24 => S_laws_eqCluster fu xs | 27 => S_spec_LeadersHave fu xs | 28 => S_impl_LeadersHave fu xs | _ => none
def msk_laws_FnExactLeadersHave (b : Nat) : List Nat := []
def lp_laws_FnExactLeadersHave (fu : Nat) : Lp RT den (Bool) := fun b s k => none
theorem ev_laws_FnExactLeadersHave (fu : Nat) (aC_0 : S_laws_Cluster) : evFun E (pc_laws_FnExactLeadersHave fu) msk_laws_FnExactLeadersHave (lp_laws_FnExactLeadersHave fu) out_b 7 [(.agg [(.rs aC_0.Nodes.z .laws_Node aC_0.Nodes.n aC_0.Nodes.f), (.rs aC_0.Mails.z .laws_Mail aC_0.Mails.n aC_0.Mails.f), (.rs aC_0.Wins.z .impl_Won aC_0.Wins.n aC_0.Wins.f), (.rs aC_0.Seals.z .laws_Seal aC_0.Seals.n aC_0.Seals.f)])] = F_laws_FnExactLeadersHave fu aC_0 := by kernel_rfl
noncomputable def body_laws_FnExactLeadersHave : Code := Try.f7.body.getD .skip
theorem lpok_laws_FnExactLeadersHave (fu : Nat) : LpOk E (pc_laws_FnExactLeadersHave fu) msk_laws_FnExactLeadersHave (lp_laws_FnExactLeadersHave fu) (loops 0 body_laws_FnExactLeadersHave) := by
  have h : loops 0 body_laws_FnExactLeadersHave = [] := by kernel_rfl
  rw [h]; intro p hp; cases hp
def S_laws_FnExactLeadersHave (fu : Nat) (xs : List (D RT den)) : Option (Out RT den) := match xs with | [.agg [.rs za0_1 .laws_Node na0_1 fa0_1, .rs za0_2 .laws_Mail na0_2 fa0_2, .rs za0_3 .impl_Won na0_3 fa0_3, .rs za0_4 .laws_Seal na0_4 fa0_4]] => some ⟨Bool, F_laws_FnExactLeadersHave fu (⟨(⟨za0_1, na0_1, fa0_1⟩ : (Sl S_laws_Node)), (⟨za0_2, na0_2, fa0_2⟩ : (Sl S_laws_Mail)), (⟨za0_3, na0_3, fa0_3⟩ : (Sl S_impl_Won)), (⟨za0_4, na0_4, fa0_4⟩ : (Sl S_laws_Seal))⟩ : S_laws_Cluster), enc_b, fun _ => true⟩ | _ => none
theorem hpc_laws_FnExactLeadersHave (fu : Nat) : ∀ f xs o, pc_laws_FnExactLeadersHave fu f xs = some o → ∀ y, o.x = some y → Good E Try.prog f xs (o.g y) := by
  intro f xs o h
  unfold pc_laws_FnExactLeadersHave at h
  split at h
  · exact good_laws_szCluster fu xs o h
  · exact good_laws_toCluster fu xs o h
  · exact good_laws_eqCluster fu xs o h
  · exact good_spec_LeadersHave fu xs o h
  · exact good_impl_LeadersHave fu xs o h
  · cases h
theorem goodv_laws_FnExactLeadersHave (fu : Nat) (aC_0 : S_laws_Cluster) (y : Bool) (hy : F_laws_FnExactLeadersHave fu aC_0 = some y) : Good E Try.prog 7 [(.agg [(.rs aC_0.Nodes.z .laws_Node aC_0.Nodes.n aC_0.Nodes.f), (.rs aC_0.Mails.z .laws_Mail aC_0.Mails.n aC_0.Mails.f), (.rs aC_0.Wins.z .impl_Won aC_0.Wins.n aC_0.Wins.f), (.rs aC_0.Seals.z .laws_Seal aC_0.Seals.n aC_0.Seals.f)])] (enc_b y) :=
  fun_good E_ok (pc_good (hpc_laws_FnExactLeadersHave fu)) (fn := Try.f7) (c := body_laws_FnExactLeadersHave) (out := out_b) (y := y) (by kernel_rfl) (by kernel_rfl) (by kernel_rfl) (lpok_laws_FnExactLeadersHave fu) (fun d hd => out_b_enc d _ hd) ((ev_laws_FnExactLeadersHave fu aC_0).trans hy)
theorem good_laws_FnExactLeadersHave (fu : Nat) : ∀ xs o, S_laws_FnExactLeadersHave fu xs = some o → ∀ y, o.x = some y → Good E Try.prog 7 xs (o.g y) := by
  intro xs o h y hy
  unfold S_laws_FnExactLeadersHave at h
  split at h
  · rename_i za0_1 na0_1 fa0_1 za0_2 na0_2 fa0_2 za0_3 na0_3 fa0_3 za0_4 na0_4 fa0_4
    cases h
    exact goodv_laws_FnExactLeadersHave fu (⟨(⟨za0_1, na0_1, fa0_1⟩ : (Sl S_laws_Node)), (⟨za0_2, na0_2, fa0_2⟩ : (Sl S_laws_Mail)), (⟨za0_3, na0_3, fa0_3⟩ : (Sl S_impl_Won)), (⟨za0_4, na0_4, fa0_4⟩ : (Sl S_laws_Seal))⟩ : S_laws_Cluster) y hy
  · cases h

/-! spec.LeaderOf -/
def F_spec_LeaderOf_B0 {ρ : Type} (fu : Nat) (o0_2 : Int) (o0_3 : Int) (o1_4 : (Sl S_impl_Node)) (o1_5 : (Sl S_impl_Mail)) (o1_6 : (Sl S_impl_Won)) (o1_7 : (Sl S_impl_Seal)) (k0 : Int → Option ρ) (best4_0 : Int) (i5_1 : Int) (go : Int → Int → Option ρ) : Option ρ :=
  (bif (decide (i5_1 < ((o1_4.n : Nat) : Int))) then ((((bif (decide (0 ≤ i5_1) && decide ((Int.toNat i5_1) < o1_4.n)) then some () else none : Option Unit).bind fun _ => (bif ((o1_4.f (Int.toNat i5_1)).Role == 2) then
    (bif (decide (best4_0 < 0)) then (some true) else ((bif (decide (0 ≤ i5_1) && decide ((Int.toNat i5_1) < o1_4.n)) then some () else none : Option Unit).bind fun _ => ((bif (decide (0 ≤ best4_0) &&
    decide ((Int.toNat best4_0) < o1_4.n)) then some () else none : Option Unit).bind fun _ => (some (decide ((o1_4.f (Int.toNat i5_1)).Term > (o1_4.f (Int.toNat best4_0)).Term)))))) else
    (some false))) : Option Bool).bind fun m459 => (bif m459 then (go i5_1 (IntKind.wrap .i64 (i5_1 + 1))) else (go best4_0 (IntKind.wrap .i64 (i5_1 + 1))))) else (k0 best4_0))
def F_spec_LeaderOf (fu : Nat) (c_0 : S_impl_Cluster) : Option (S_impl_IntResult) :=
  ((F_spec_l9Fault fu c_0).bind fun y458 => (bif (y458 != 0) then (some (⟨y458, 0⟩ : S_impl_IntResult)) else (L (fun w0 go0 => F_spec_LeaderOf_B0 fu 0 0 c_0.Nodes c_0.Mails c_0.Wins c_0.Seals (fun z460 =>
    (bif (decide (z460 < 0)) then (some (⟨4, 0⟩ : S_impl_IntResult)) else (some (⟨0, z460⟩ : S_impl_IntResult)))) w0.1 w0.2 (fun q0 q1 => go0 (q0, q1))) fu (((-1), 0) : Int × Int))))
def pc_spec_LeaderOf (fu : Nat) : Pc RT den := fun f xs => match f with | 48 => S_spec_l9Fault fu xs | _ => none
def msk_spec_LeaderOf (b : Nat) : List Nat := match b with | 0 => [0, 3, 6, 7, 8, 9, 10, 11, 12, 13, 14, 15, 16, 17, 18, 19, 20, 21, 22, 23, 24, 25, 26, 27, 28, 29, 30, 31, 32, 33, 34, 35, 36, 37, 38, 39, 40, 41, 42, 43, 44, 45, 46, 47, 48, 49] | 100000 => [0, 1, 3, 5, 6, 7, 8, 9, 10, 11, 12, 13, 14, 15, 16, 17, 18, 19, 20, 21, 22, 23, 24, 25, 26, 27, 28, 29, 30, 31, 32, 33, 34, 35, 36, 37, 38, 39, 40, 41, 42, 43, 44, 45, 46, 47, 48, 49] | 200008 => [43] | _ => []
def ps_spec_LeaderOf_0 : List (Pat RT) := [.flat .dead, .flat (.ref 1 0), .flat (.ref 0 0), .flat .dead, .flat (.int .i64), .flat (.int .i64), .flat .dead, .flat .dead, .flat .dead, .flat .dead, .flat .dead, .flat .dead, .flat .dead, .flat .dead, .flat .dead, .flat .dead, .flat .dead, .flat .dead, .flat .dead, .flat .dead, .flat .dead, .flat .dead, .flat .dead, .flat .dead, .flat .dead, .flat .dead, .flat .dead, .flat .dead, .flat .dead, .flat .dead, .flat .dead, .flat .dead, .flat .dead, .flat .dead, .flat .dead, .flat .dead, .flat .dead, .flat .dead, .flat .dead, .flat .dead, .flat .dead, .flat .dead, .flat .dead, .flat .dead, .flat .dead, .flat .dead, .flat .dead, .flat .dead, .flat .dead, .flat .dead]
def os_spec_LeaderOf_0 : List (OP RT) := [.box [(.int .i64), (.int .i64)], .box [(.rs .impl_Node), (.rs .impl_Mail), (.rs .impl_Won), (.rs .impl_Seal)]]
def conv_spec_LeaderOf_0 (r : Raw den ps_spec_LeaderOf_0 os_spec_LeaderOf_0) : (Int × Int × (Sl S_impl_Node) × (Sl S_impl_Mail) × (Sl S_impl_Won) × (Sl S_impl_Seal)) × (Int × Int) := ((r.2.1.1, r.2.1.2.1, r.2.2.1.1, r.2.2.1.2.1, r.2.2.1.2.2.1, r.2.2.1.2.2.2.1), (r.1.2.2.2.2.1, r.1.2.2.2.2.2.1))
def back_spec_LeaderOf_0 (c : Int × Int × (Sl S_impl_Node) × (Sl S_impl_Mail) × (Sl S_impl_Won) × (Sl S_impl_Seal)) (w : Int × Int) : St RT den := ⟨[.dead, (.ref 1 0), (.ref 0 0), .dead, (.int .i64 w.1), (.int .i64 w.2), .dead, .dead, .dead, .dead, .dead, .dead, .dead, .dead, .dead, .dead, .dead, .dead, .dead, .dead, .dead, .dead, .dead, .dead, .dead, .dead, .dead, .dead, .dead, .dead, .dead, .dead, .dead, .dead, .dead, .dead, .dead, .dead, .dead, .dead, .dead, .dead, .dead, .dead, .dead, .dead, .dead, .dead, .dead, .dead], [(.box [(.int .i64 c.1), (.int .i64 c.2.1)]), (.box [(.rs c.2.2.1.z .impl_Node c.2.2.1.n c.2.2.1.f), (.rs c.2.2.2.1.z .impl_Mail c.2.2.2.1.n c.2.2.2.1.f), (.rs c.2.2.2.2.1.z .impl_Won c.2.2.2.2.1.n c.2.2.2.2.1.f), (.rs c.2.2.2.2.2.z .impl_Seal c.2.2.2.2.2.n c.2.2.2.2.2.f)])]⟩
def Bk_spec_LeaderOf_0 {ρ : Type} (fu : Nat) (c : Int × Int × (Sl S_impl_Node) × (Sl S_impl_Mail) × (Sl S_impl_Won) × (Sl S_impl_Seal)) (k : Ex → St RT den → Option ρ) (w : Int × Int) (go : (Int × Int) → Option ρ) : Option ρ := F_spec_LeaderOf_B0 fu c.1 c.2.1 c.2.2.1 c.2.2.2.1 c.2.2.2.2.1 c.2.2.2.2.2 (fun a0 => k (.exit 0) ⟨[.dead, .dead, (.ref 0 0), .dead, (.int .i64 a0), .dead, .dead, .dead, .dead, .dead, .dead, .dead, .dead, .dead, .dead, .dead, .dead, .dead, .dead, .dead, .dead, .dead, .dead, .dead, .dead, .dead, .dead, .dead, .dead, .dead, .dead, .dead, .dead, .dead, .dead, .dead, .dead, .dead, .dead, .dead, .dead, .dead, .dead, .dead, .dead, .dead, .dead, .dead, .dead, .dead], [(.box [(.int .i64 c.1), (.int .i64 c.2.1)]), (.box [(.rs c.2.2.1.z .impl_Node c.2.2.1.n c.2.2.1.f), (.rs c.2.2.2.1.z .impl_Mail c.2.2.2.1.n c.2.2.2.1.f), (.rs c.2.2.2.2.1.z .impl_Won c.2.2.2.2.1.n c.2.2.2.2.1.f), (.rs c.2.2.2.2.2.z .impl_Seal c.2.2.2.2.2.n c.2.2.2.2.2.f)])]⟩) w.1 w.2 (fun q0 q1 => go (q0, q1))
def lp_spec_LeaderOf (fu : Nat) : Lp RT den (S_impl_IntResult) := fun b s k => match b with | 0 => handle ps_spec_LeaderOf_0 os_spec_LeaderOf_0 conv_spec_LeaderOf_0 (Bk_spec_LeaderOf_0 fu) fu s k | _ => none
theorem ev_spec_LeaderOf (fu : Nat) (c_0 : S_impl_Cluster) : evFun E (pc_spec_LeaderOf fu) msk_spec_LeaderOf (lp_spec_LeaderOf fu) out_impl_IntResult 29 [(.agg [(.rs c_0.Nodes.z .impl_Node c_0.Nodes.n c_0.Nodes.f), (.rs c_0.Mails.z .impl_Mail c_0.Mails.n c_0.Mails.f), (.rs c_0.Wins.z .impl_Won c_0.Wins.n c_0.Wins.f), (.rs c_0.Seals.z .impl_Seal c_0.Seals.n c_0.Seals.f)])] = F_spec_LeaderOf fu c_0 := by kernel_rfl
noncomputable def body_spec_LeaderOf : Code := Try.f29.body.getD .skip
noncomputable def lc_spec_LeaderOf_0 : Code := ((loops 0 body_spec_LeaderOf).getD 0 (0, .skip)).2
theorem round_spec_LeaderOf_0 (fu : Nat) (it : St RT den → Option (S_impl_IntResult)) (k : Ex → St RT den → Option (S_impl_IntResult)) c w : evCode E (pc_spec_LeaderOf fu) msk_spec_LeaderOf (lp_spec_LeaderOf fu) 0 lc_spec_LeaderOf_0 (back_spec_LeaderOf_0 c w) (after (msk_spec_LeaderOf 0) (msk_spec_LeaderOf 100000) 2 it k) = Bk_spec_LeaderOf_0 fu c k w (fun w => it (back_spec_LeaderOf_0 c w)) := by kernel_rfl
theorem lpok_spec_LeaderOf_0 (fu : Nat) : ∀ s k r, lp_spec_LeaderOf fu 0 s k = some r → ∃ fuel, iter (msk_spec_LeaderOf 0) (msk_spec_LeaderOf 100000) s.objs.length (evCode E (pc_spec_LeaderOf fu) msk_spec_LeaderOf (lp_spec_LeaderOf fu) 0 lc_spec_LeaderOf_0) fuel s k = some r :=
  handle_ok (ps := ps_spec_LeaderOf_0) (os := os_spec_LeaderOf_0) (conv := conv_spec_LeaderOf_0) (B := Bk_spec_LeaderOf_0 fu) (fu := fu) back_spec_LeaderOf_0 (fun raw => by kernel_rfl) 2 (fun c w => by kernel_rfl) (round_spec_LeaderOf_0 fu)
theorem lpok_spec_LeaderOf (fu : Nat) : LpOk E (pc_spec_LeaderOf fu) msk_spec_LeaderOf (lp_spec_LeaderOf fu) (loops 0 body_spec_LeaderOf) := loop_all 1 (by kernel_rfl) fun i hi => match i, hi with
  | 0, _ => by
    have h : (loops 0 body_spec_LeaderOf).getD 0 (0, .skip) = (0, lc_spec_LeaderOf_0) := by kernel_rfl
    rw [h]; exact lpok_spec_LeaderOf_0 fu
  | i + 1, hi => absurd hi (by omega)
def S_spec_LeaderOf (fu : Nat) (xs : List (D RT den)) : Option (Out RT den) := match xs with | [.agg [.rs za0_1 .impl_Node na0_1 fa0_1, .rs za0_2 .impl_Mail na0_2 fa0_2, .rs za0_3 .impl_Won na0_3 fa0_3, .rs za0_4 .impl_Seal na0_4 fa0_4]] => some ⟨S_impl_IntResult, F_spec_LeaderOf fu (⟨(⟨za0_1, na0_1, fa0_1⟩ : (Sl S_impl_Node)), (⟨za0_2, na0_2, fa0_2⟩ : (Sl S_impl_Mail)), (⟨za0_3, na0_3, fa0_3⟩ : (Sl S_impl_Won)), (⟨za0_4, na0_4, fa0_4⟩ : (Sl S_impl_Seal))⟩ : S_impl_Cluster), enc_impl_IntResult, fun _ => true⟩ | _ => none
theorem hpc_spec_LeaderOf (fu : Nat) : ∀ f xs o, pc_spec_LeaderOf fu f xs = some o → ∀ y, o.x = some y → Good E Try.prog f xs (o.g y) := by
  intro f xs o h
  unfold pc_spec_LeaderOf at h
  split at h
  · exact good_spec_l9Fault fu xs o h
  · cases h
theorem goodv_spec_LeaderOf (fu : Nat) (c_0 : S_impl_Cluster) (y : S_impl_IntResult) (hy : F_spec_LeaderOf fu c_0 = some y) : Good E Try.prog 29 [(.agg [(.rs c_0.Nodes.z .impl_Node c_0.Nodes.n c_0.Nodes.f), (.rs c_0.Mails.z .impl_Mail c_0.Mails.n c_0.Mails.f), (.rs c_0.Wins.z .impl_Won c_0.Wins.n c_0.Wins.f), (.rs c_0.Seals.z .impl_Seal c_0.Seals.n c_0.Seals.f)])] (enc_impl_IntResult y) :=
  fun_good E_ok (pc_good (hpc_spec_LeaderOf fu)) (fn := Try.f29) (c := body_spec_LeaderOf) (out := out_impl_IntResult) (y := y) (by kernel_rfl) (by kernel_rfl) (by kernel_rfl) (lpok_spec_LeaderOf fu) (fun d hd => out_impl_IntResult_enc d _ hd) ((ev_spec_LeaderOf fu c_0).trans hy)
theorem good_spec_LeaderOf (fu : Nat) : ∀ xs o, S_spec_LeaderOf fu xs = some o → ∀ y, o.x = some y → Good E Try.prog 29 xs (o.g y) := by
  intro xs o h y hy
  unfold S_spec_LeaderOf at h
  split at h
  · rename_i za0_1 na0_1 fa0_1 za0_2 na0_2 fa0_2 za0_3 na0_3 fa0_3 za0_4 na0_4 fa0_4
    cases h
    exact goodv_spec_LeaderOf fu (⟨(⟨za0_1, na0_1, fa0_1⟩ : (Sl S_impl_Node)), (⟨za0_2, na0_2, fa0_2⟩ : (Sl S_impl_Mail)), (⟨za0_3, na0_3, fa0_3⟩ : (Sl S_impl_Won)), (⟨za0_4, na0_4, fa0_4⟩ : (Sl S_impl_Seal))⟩ : S_impl_Cluster) y hy
  · cases h

/-! (*impl.Cluster).leader -/
def F_impl_Cluster_leader_B0 {ρ : Type} (fu : Nat) (c0_0 : (Sl S_impl_Node)) (c0_1 : (Sl S_impl_Mail)) (c0_2 : (Sl S_impl_Won)) (c0_3 : (Sl S_impl_Seal)) (t9_5 : (Sl S_impl_Node)) (t10_6 : Int) (k0 : Int → Option ρ) (best3_4 : Int) (t11_7 : Int) (go : Int → Int → Option ρ) : Option ρ :=
  (bif (decide (t11_7 < t10_6)) then ((bif (decide (0 ≤ t11_7) && decide ((Int.toNat t11_7) < t9_5.n)) then some () else none : Option Unit).bind fun _ => (((bif ((t9_5.f (Int.toNat t11_7)).Role == 2) then
    (bif (decide (best3_4 < 0)) then (some true) else ((bif (decide (0 ≤ best3_4) && decide ((Int.toNat best3_4) < c0_0.n)) then some () else none : Option Unit).bind fun _ => (some (decide ((t9_5.f (Int.toNat t11_7)).Term > (c0_0.f (Int.toNat best3_4)).Term))))) else
    (some false)) : Option Bool).bind fun m463 => (bif m463 then (go (t9_5.f (Int.toNat t11_7)).Id (IntKind.wrap .i64 (t11_7 + 1))) else (go best3_4 (IntKind.wrap .i64 (t11_7 + 1)))))) else
    (k0 best3_4))
def F_impl_Cluster_leader (fu : Nat) (c_0 : S_impl_Cluster) : Option (Int) :=
  (L (fun w0 go0 => F_impl_Cluster_leader_B0 fu c_0.Nodes c_0.Mails c_0.Wins c_0.Seals c_0.Nodes ((c_0.Nodes.n : Nat) : Int) (fun z464 => (some z464)) w0.1 w0.2 (fun q0 q1 => go0 (q0,
    q1))) fu (((-1), 0) : Int × Int))
def pc_impl_Cluster_leader (fu : Nat) : Pc RT den := fun f xs => none
def msk_impl_Cluster_leader (b : Nat) : List Nat := match b with | 0 => [1, 2, 4, 5, 6, 7, 8, 12, 13, 14, 15, 16, 17, 18, 19, 20, 21, 22, 23, 24, 25, 26, 27, 28, 29, 30, 31, 32, 33, 34, 35, 36, 37, 38] | 100000 => [0, 1, 4, 5, 6, 7, 8, 9, 10, 11, 12, 13, 14, 15, 16, 17, 18, 19, 20, 21, 22, 23, 24, 25, 26, 27, 28, 29, 30, 31, 32, 33, 34, 35, 36, 37, 38] | 200005 => [34] | _ => []
def ps_impl_Cluster_leader_0 : List (Pat RT) := [.rptr [(.rs .impl_Node), (.rs .impl_Mail), (.rs .impl_Won), (.rs .impl_Seal)], .flat .dead, .flat .dead, .flat (.int .i64), .flat .dead, .flat .dead, .flat .dead, .flat .dead, .flat .dead, .flat (.rs .impl_Node), .flat (.int .i64), .flat (.int .i64), .flat .dead, .flat .dead, .flat .dead, .flat .dead, .flat .dead, .flat .dead, .flat .dead, .flat .dead, .flat .dead, .flat .dead, .flat .dead, .flat .dead, .flat .dead, .flat .dead, .flat .dead, .flat .dead, .flat .dead, .flat .dead, .flat .dead, .flat .dead, .flat .dead, .flat .dead, .flat .dead, .flat .dead, .flat .dead, .flat .dead, .flat .dead]
def os_impl_Cluster_leader_0 : List (OP RT) := []
def conv_impl_Cluster_leader_0 (r : Raw den ps_impl_Cluster_leader_0 os_impl_Cluster_leader_0) : ((Sl S_impl_Node) × (Sl S_impl_Mail) × (Sl S_impl_Won) × (Sl S_impl_Seal) × (Sl S_impl_Node) × Int) × (Int × Int) := ((r.1.1.1, r.1.1.2.1, r.1.1.2.2.1, r.1.1.2.2.2.1, r.1.2.2.2.2.2.2.2.2.2.1, r.1.2.2.2.2.2.2.2.2.2.2.1), (r.1.2.2.2.1, r.1.2.2.2.2.2.2.2.2.2.2.2.1))
def back_impl_Cluster_leader_0 (c : (Sl S_impl_Node) × (Sl S_impl_Mail) × (Sl S_impl_Won) × (Sl S_impl_Seal) × (Sl S_impl_Node) × Int) (w : Int × Int) : St RT den := ⟨[(.rptr [(.rs c.1.z .impl_Node c.1.n c.1.f), (.rs c.2.1.z .impl_Mail c.2.1.n c.2.1.f), (.rs c.2.2.1.z .impl_Won c.2.2.1.n c.2.2.1.f), (.rs c.2.2.2.1.z .impl_Seal c.2.2.2.1.n c.2.2.2.1.f)]), .dead, .dead, (.int .i64 w.1), .dead, .dead, .dead, .dead, .dead, (.rs c.2.2.2.2.1.z .impl_Node c.2.2.2.2.1.n c.2.2.2.2.1.f), (.int .i64 c.2.2.2.2.2), (.int .i64 w.2), .dead, .dead, .dead, .dead, .dead, .dead, .dead, .dead, .dead, .dead, .dead, .dead, .dead, .dead, .dead, .dead, .dead, .dead, .dead, .dead, .dead, .dead, .dead, .dead, .dead, .dead, .dead], []⟩
def Bk_impl_Cluster_leader_0 {ρ : Type} (fu : Nat) (c : (Sl S_impl_Node) × (Sl S_impl_Mail) × (Sl S_impl_Won) × (Sl S_impl_Seal) × (Sl S_impl_Node) × Int) (k : Ex → St RT den → Option ρ) (w : Int × Int) (go : (Int × Int) → Option ρ) : Option ρ := F_impl_Cluster_leader_B0 fu c.1 c.2.1 c.2.2.1 c.2.2.2.1 c.2.2.2.2.1 c.2.2.2.2.2 (fun a0 => k (.exit 0) ⟨[.dead, .dead, .dead, (.int .i64 a0), .dead, .dead, .dead, .dead, .dead, .dead, .dead, .dead, .dead, .dead, .dead, .dead, .dead, .dead, .dead, .dead, .dead, .dead, .dead, .dead, .dead, .dead, .dead, .dead, .dead, .dead, .dead, .dead, .dead, .dead, .dead, .dead, .dead, .dead, .dead], []⟩) w.1 w.2 (fun q0 q1 => go (q0, q1))
def lp_impl_Cluster_leader (fu : Nat) : Lp RT den (Int) := fun b s k => match b with | 0 => handle ps_impl_Cluster_leader_0 os_impl_Cluster_leader_0 conv_impl_Cluster_leader_0 (Bk_impl_Cluster_leader_0 fu) fu s k | _ => none
theorem ev_impl_Cluster_leader (fu : Nat) (c_0 : S_impl_Cluster) : evFun E (pc_impl_Cluster_leader fu) msk_impl_Cluster_leader (lp_impl_Cluster_leader fu) out_i64 64 [(.rptr [(.rs c_0.Nodes.z .impl_Node c_0.Nodes.n c_0.Nodes.f), (.rs c_0.Mails.z .impl_Mail c_0.Mails.n c_0.Mails.f), (.rs c_0.Wins.z .impl_Won c_0.Wins.n c_0.Wins.f), (.rs c_0.Seals.z .impl_Seal c_0.Seals.n c_0.Seals.f)])] = F_impl_Cluster_leader fu c_0 := by kernel_rfl
noncomputable def body_impl_Cluster_leader : Code := Try.f64.body.getD .skip
noncomputable def lc_impl_Cluster_leader_0 : Code := ((loops 0 body_impl_Cluster_leader).getD 0 (0, .skip)).2
theorem round_impl_Cluster_leader_0 (fu : Nat) (it : St RT den → Option (Int)) (k : Ex → St RT den → Option (Int)) c w : evCode E (pc_impl_Cluster_leader fu) msk_impl_Cluster_leader (lp_impl_Cluster_leader fu) 0 lc_impl_Cluster_leader_0 (back_impl_Cluster_leader_0 c w) (after (msk_impl_Cluster_leader 0) (msk_impl_Cluster_leader 100000) 0 it k) = Bk_impl_Cluster_leader_0 fu c k w (fun w => it (back_impl_Cluster_leader_0 c w)) := by kernel_rfl
theorem lpok_impl_Cluster_leader_0 (fu : Nat) : ∀ s k r, lp_impl_Cluster_leader fu 0 s k = some r → ∃ fuel, iter (msk_impl_Cluster_leader 0) (msk_impl_Cluster_leader 100000) s.objs.length (evCode E (pc_impl_Cluster_leader fu) msk_impl_Cluster_leader (lp_impl_Cluster_leader fu) 0 lc_impl_Cluster_leader_0) fuel s k = some r :=
  handle_ok (ps := ps_impl_Cluster_leader_0) (os := os_impl_Cluster_leader_0) (conv := conv_impl_Cluster_leader_0) (B := Bk_impl_Cluster_leader_0 fu) (fu := fu) back_impl_Cluster_leader_0 (fun raw => by kernel_rfl) 0 (fun c w => by kernel_rfl) (round_impl_Cluster_leader_0 fu)
theorem lpok_impl_Cluster_leader (fu : Nat) : LpOk E (pc_impl_Cluster_leader fu) msk_impl_Cluster_leader (lp_impl_Cluster_leader fu) (loops 0 body_impl_Cluster_leader) := loop_all 1 (by kernel_rfl) fun i hi => match i, hi with
  | 0, _ => by
    have h : (loops 0 body_impl_Cluster_leader).getD 0 (0, .skip) = (0, lc_impl_Cluster_leader_0) := by kernel_rfl
    rw [h]; exact lpok_impl_Cluster_leader_0 fu
  | i + 1, hi => absurd hi (by omega)
def S_impl_Cluster_leader (fu : Nat) (xs : List (D RT den)) : Option (Out RT den) := match xs with | [.rptr [.rs za0_1 .impl_Node na0_1 fa0_1, .rs za0_2 .impl_Mail na0_2 fa0_2, .rs za0_3 .impl_Won na0_3 fa0_3, .rs za0_4 .impl_Seal na0_4 fa0_4]] => some ⟨Int, F_impl_Cluster_leader fu (⟨(⟨za0_1, na0_1, fa0_1⟩ : (Sl S_impl_Node)), (⟨za0_2, na0_2, fa0_2⟩ : (Sl S_impl_Mail)), (⟨za0_3, na0_3, fa0_3⟩ : (Sl S_impl_Won)), (⟨za0_4, na0_4, fa0_4⟩ : (Sl S_impl_Seal))⟩ : S_impl_Cluster), enc_i64, fun _ => true⟩ | _ => none
theorem hpc_impl_Cluster_leader (fu : Nat) : ∀ f xs o, pc_impl_Cluster_leader fu f xs = some o → ∀ y, o.x = some y → Good E Try.prog f xs (o.g y) := by
  intro f xs o h
  cases h
theorem goodv_impl_Cluster_leader (fu : Nat) (c_0 : S_impl_Cluster) (y : Int) (hy : F_impl_Cluster_leader fu c_0 = some y) : Good E Try.prog 64 [(.rptr [(.rs c_0.Nodes.z .impl_Node c_0.Nodes.n c_0.Nodes.f), (.rs c_0.Mails.z .impl_Mail c_0.Mails.n c_0.Mails.f), (.rs c_0.Wins.z .impl_Won c_0.Wins.n c_0.Wins.f), (.rs c_0.Seals.z .impl_Seal c_0.Seals.n c_0.Seals.f)])] (enc_i64 y) :=
  fun_good E_ok (pc_good (hpc_impl_Cluster_leader fu)) (fn := Try.f64) (c := body_impl_Cluster_leader) (out := out_i64) (y := y) (by kernel_rfl) (by kernel_rfl) (by kernel_rfl) (lpok_impl_Cluster_leader fu) (fun d hd => out_i64_enc d _ hd) ((ev_impl_Cluster_leader fu c_0).trans hy)
theorem good_impl_Cluster_leader (fu : Nat) : ∀ xs o, S_impl_Cluster_leader fu xs = some o → ∀ y, o.x = some y → Good E Try.prog 64 xs (o.g y) := by
  intro xs o h y hy
  unfold S_impl_Cluster_leader at h
  split at h
  · rename_i za0_1 na0_1 fa0_1 za0_2 na0_2 fa0_2 za0_3 na0_3 fa0_3 za0_4 na0_4 fa0_4
    cases h
    exact goodv_impl_Cluster_leader fu (⟨(⟨za0_1, na0_1, fa0_1⟩ : (Sl S_impl_Node)), (⟨za0_2, na0_2, fa0_2⟩ : (Sl S_impl_Mail)), (⟨za0_3, na0_3, fa0_3⟩ : (Sl S_impl_Won)), (⟨za0_4, na0_4, fa0_4⟩ : (Sl S_impl_Seal))⟩ : S_impl_Cluster) y hy
  · cases h

/-! impl.LeaderOf -/
def F_impl_LeaderOf (fu : Nat) (c_0 : S_impl_Cluster) : Option (S_impl_IntResult) :=
  ((F_impl_ClusterFault fu c_0).bind fun y461 => (bif (y461 != 0) then (some (⟨y461, 0⟩ : S_impl_IntResult)) else ((F_impl_Cluster_leader fu c_0).bind fun y462 => (bif (decide (y462 < 0)) then
    (some (⟨4, 0⟩ : S_impl_IntResult)) else (some (⟨0, y462⟩ : S_impl_IntResult))))))
def pc_impl_LeaderOf (fu : Nat) : Pc RT den := fun f xs => match f with | 23 => S_impl_ClusterFault fu xs | 64 => S_impl_Cluster_leader fu xs | _ => none
def msk_impl_LeaderOf (b : Nat) : List Nat := []
def lp_impl_LeaderOf (fu : Nat) : Lp RT den (S_impl_IntResult) := fun b s k => none
theorem ev_impl_LeaderOf (fu : Nat) (c_0 : S_impl_Cluster) : evFun E (pc_impl_LeaderOf fu) msk_impl_LeaderOf (lp_impl_LeaderOf fu) out_impl_IntResult 30 [(.agg [(.rs c_0.Nodes.z .impl_Node c_0.Nodes.n c_0.Nodes.f), (.rs c_0.Mails.z .impl_Mail c_0.Mails.n c_0.Mails.f), (.rs c_0.Wins.z .impl_Won c_0.Wins.n c_0.Wins.f), (.rs c_0.Seals.z .impl_Seal c_0.Seals.n c_0.Seals.f)])] = F_impl_LeaderOf fu c_0 := by kernel_rfl
noncomputable def body_impl_LeaderOf : Code := Try.f30.body.getD .skip
theorem lpok_impl_LeaderOf (fu : Nat) : LpOk E (pc_impl_LeaderOf fu) msk_impl_LeaderOf (lp_impl_LeaderOf fu) (loops 0 body_impl_LeaderOf) := by
  have h : loops 0 body_impl_LeaderOf = [] := by kernel_rfl
  rw [h]; intro p hp; cases hp
def S_impl_LeaderOf (fu : Nat) (xs : List (D RT den)) : Option (Out RT den) := match xs with | [.agg [.rs za0_1 .impl_Node na0_1 fa0_1, .rs za0_2 .impl_Mail na0_2 fa0_2, .rs za0_3 .impl_Won na0_3 fa0_3, .rs za0_4 .impl_Seal na0_4 fa0_4]] => some ⟨S_impl_IntResult, F_impl_LeaderOf fu (⟨(⟨za0_1, na0_1, fa0_1⟩ : (Sl S_impl_Node)), (⟨za0_2, na0_2, fa0_2⟩ : (Sl S_impl_Mail)), (⟨za0_3, na0_3, fa0_3⟩ : (Sl S_impl_Won)), (⟨za0_4, na0_4, fa0_4⟩ : (Sl S_impl_Seal))⟩ : S_impl_Cluster), enc_impl_IntResult, fun _ => true⟩ | _ => none
theorem hpc_impl_LeaderOf (fu : Nat) : ∀ f xs o, pc_impl_LeaderOf fu f xs = some o → ∀ y, o.x = some y → Good E Try.prog f xs (o.g y) := by
  intro f xs o h
  unfold pc_impl_LeaderOf at h
  split at h
  · exact good_impl_ClusterFault fu xs o h
  · exact good_impl_Cluster_leader fu xs o h
  · cases h
theorem goodv_impl_LeaderOf (fu : Nat) (c_0 : S_impl_Cluster) (y : S_impl_IntResult) (hy : F_impl_LeaderOf fu c_0 = some y) : Good E Try.prog 30 [(.agg [(.rs c_0.Nodes.z .impl_Node c_0.Nodes.n c_0.Nodes.f), (.rs c_0.Mails.z .impl_Mail c_0.Mails.n c_0.Mails.f), (.rs c_0.Wins.z .impl_Won c_0.Wins.n c_0.Wins.f), (.rs c_0.Seals.z .impl_Seal c_0.Seals.n c_0.Seals.f)])] (enc_impl_IntResult y) :=
  fun_good E_ok (pc_good (hpc_impl_LeaderOf fu)) (fn := Try.f30) (c := body_impl_LeaderOf) (out := out_impl_IntResult) (y := y) (by kernel_rfl) (by kernel_rfl) (by kernel_rfl) (lpok_impl_LeaderOf fu) (fun d hd => out_impl_IntResult_enc d _ hd) ((ev_impl_LeaderOf fu c_0).trans hy)
theorem good_impl_LeaderOf (fu : Nat) : ∀ xs o, S_impl_LeaderOf fu xs = some o → ∀ y, o.x = some y → Good E Try.prog 30 xs (o.g y) := by
  intro xs o h y hy
  unfold S_impl_LeaderOf at h
  split at h
  · rename_i za0_1 na0_1 fa0_1 za0_2 na0_2 fa0_2 za0_3 na0_3 fa0_3 za0_4 na0_4 fa0_4
    cases h
    exact goodv_impl_LeaderOf fu (⟨(⟨za0_1, na0_1, fa0_1⟩ : (Sl S_impl_Node)), (⟨za0_2, na0_2, fa0_2⟩ : (Sl S_impl_Mail)), (⟨za0_3, na0_3, fa0_3⟩ : (Sl S_impl_Won)), (⟨za0_4, na0_4, fa0_4⟩ : (Sl S_impl_Seal))⟩ : S_impl_Cluster) y hy
  · cases h

/-! laws.FnExactLeaderOf -/
def F_laws_FnExactLeaderOf (fu : Nat) (aC_0 : S_laws_Cluster) : Option (Bool) :=
  ((F_laws_szCluster fu aC_0 1048576).bind fun y450 => (bif (decide (y450 < 0)) then (some true) else ((F_laws_toCluster fu aC_0).bind fun y451 => ((F_spec_LeaderOf fu y451).bind fun y452 =>
    ((F_laws_toCluster fu aC_0).bind fun y453 => ((F_impl_LeaderOf fu y453).bind fun y454 => ((F_laws_eqIntResult fu y454 y452).bind fun y455 => (bif (!y455) then (some false) else
    ((F_laws_toCluster fu aC_0).bind fun y456 => ((F_laws_eqCluster fu y453 y456).bind fun y457 => (bif (!y457) then (some false) else (some true))))))))))))
def pc_laws_FnExactLeaderOf (fu : Nat) : Pc RT den := fun f xs => match f with | 13 => S_laws_eqIntResult fu xs | 20 => S_laws_szCluster fu xs | 22 => S_laws_toCluster fu xs | 24 => S_laws_eqCluster fu xs | 29 => S_spec_LeaderOf fu xs | 30 => S_impl_LeaderOf fu xs | _ => none
def msk_laws_FnExactLeaderOf (b : Nat) : List Nat := []
def lp_laws_FnExactLeaderOf (fu : Nat) : Lp RT den (Bool) := fun b s k => none
theorem ev_laws_FnExactLeaderOf (fu : Nat) (aC_0 : S_laws_Cluster) : evFun E (pc_laws_FnExactLeaderOf fu) msk_laws_FnExactLeaderOf (lp_laws_FnExactLeaderOf fu) out_b 8 [(.agg [(.rs aC_0.Nodes.z .laws_Node aC_0.Nodes.n aC_0.Nodes.f), (.rs aC_0.Mails.z .laws_Mail aC_0.Mails.n aC_0.Mails.f), (.rs aC_0.Wins.z .impl_Won aC_0.Wins.n aC_0.Wins.f), (.rs aC_0.Seals.z .laws_Seal aC_0.Seals.n aC_0.Seals.f)])] = F_laws_FnExactLeaderOf fu aC_0 := by kernel_rfl
noncomputable def body_laws_FnExactLeaderOf : Code := Try.f8.body.getD .skip
theorem lpok_laws_FnExactLeaderOf (fu : Nat) : LpOk E (pc_laws_FnExactLeaderOf fu) msk_laws_FnExactLeaderOf (lp_laws_FnExactLeaderOf fu) (loops 0 body_laws_FnExactLeaderOf) := by
  have h : loops 0 body_laws_FnExactLeaderOf = [] := by kernel_rfl
  rw [h]; intro p hp; cases hp
def S_laws_FnExactLeaderOf (fu : Nat) (xs : List (D RT den)) : Option (Out RT den) := match xs with | [.agg [.rs za0_1 .laws_Node na0_1 fa0_1, .rs za0_2 .laws_Mail na0_2 fa0_2, .rs za0_3 .impl_Won na0_3 fa0_3, .rs za0_4 .laws_Seal na0_4 fa0_4]] => some ⟨Bool, F_laws_FnExactLeaderOf fu (⟨(⟨za0_1, na0_1, fa0_1⟩ : (Sl S_laws_Node)), (⟨za0_2, na0_2, fa0_2⟩ : (Sl S_laws_Mail)), (⟨za0_3, na0_3, fa0_3⟩ : (Sl S_impl_Won)), (⟨za0_4, na0_4, fa0_4⟩ : (Sl S_laws_Seal))⟩ : S_laws_Cluster), enc_b, fun _ => true⟩ | _ => none
theorem hpc_laws_FnExactLeaderOf (fu : Nat) : ∀ f xs o, pc_laws_FnExactLeaderOf fu f xs = some o → ∀ y, o.x = some y → Good E Try.prog f xs (o.g y) := by
  intro f xs o h
  unfold pc_laws_FnExactLeaderOf at h
  split at h
  · exact good_laws_eqIntResult fu xs o h
  · exact good_laws_szCluster fu xs o h
  · exact good_laws_toCluster fu xs o h
  · exact good_laws_eqCluster fu xs o h
  · exact good_spec_LeaderOf fu xs o h
  · exact good_impl_LeaderOf fu xs o h
  · cases h
theorem goodv_laws_FnExactLeaderOf (fu : Nat) (aC_0 : S_laws_Cluster) (y : Bool) (hy : F_laws_FnExactLeaderOf fu aC_0 = some y) : Good E Try.prog 8 [(.agg [(.rs aC_0.Nodes.z .laws_Node aC_0.Nodes.n aC_0.Nodes.f), (.rs aC_0.Mails.z .laws_Mail aC_0.Mails.n aC_0.Mails.f), (.rs aC_0.Wins.z .impl_Won aC_0.Wins.n aC_0.Wins.f), (.rs aC_0.Seals.z .laws_Seal aC_0.Seals.n aC_0.Seals.f)])] (enc_b y) :=
  fun_good E_ok (pc_good (hpc_laws_FnExactLeaderOf fu)) (fn := Try.f8) (c := body_laws_FnExactLeaderOf) (out := out_b) (y := y) (by kernel_rfl) (by kernel_rfl) (by kernel_rfl) (lpok_laws_FnExactLeaderOf fu) (fun d hd => out_b_enc d _ hd) ((ev_laws_FnExactLeaderOf fu aC_0).trans hy)
theorem good_laws_FnExactLeaderOf (fu : Nat) : ∀ xs o, S_laws_FnExactLeaderOf fu xs = some o → ∀ y, o.x = some y → Good E Try.prog 8 xs (o.g y) := by
  intro xs o h y hy
  unfold S_laws_FnExactLeaderOf at h
  split at h
  · rename_i za0_1 na0_1 fa0_1 za0_2 na0_2 fa0_2 za0_3 na0_3 fa0_3 za0_4 na0_4 fa0_4
    cases h
    exact goodv_laws_FnExactLeaderOf fu (⟨(⟨za0_1, na0_1, fa0_1⟩ : (Sl S_laws_Node)), (⟨za0_2, na0_2, fa0_2⟩ : (Sl S_laws_Mail)), (⟨za0_3, na0_3, fa0_3⟩ : (Sl S_impl_Won)), (⟨za0_4, na0_4, fa0_4⟩ : (Sl S_laws_Seal))⟩ : S_laws_Cluster) y hy
  · cases h
end Go.Proofs.Ytgdlionhnifajaa.Pc
