/- The tables of the program's types for the value machine. Conditions: none. -/
import Derived.Test.YtnfippmeficfjaaVmO
import Derived.Test.YtnfippmeficfjaaProg
import Derived.KernelRfl
namespace Go.Proofs.Ytnfippmeficfjaa.Pc
open Go Go.RowKit Go.Proofs Vm
set_option linter.unusedVariables false
set_option linter.unusedSimpArgs false
set_option maxRecDepth 100000
structure S_impl_Cmd where
  Kind : Int
  Expect : Int
  Name : Int
  Addr : Int
  Number : Int
  Proto : Int
structure S_laws_Entry where
  Term : Int
  Client : Int
  Seq : Int
  Cmd : S_impl_Cmd
structure S_laws_Node where
  Id : Int
  Peers : Int
  Term : Int
  Voted : Int
  Log : (Sl S_laws_Entry)
  Role : Int
  Commit : Int
  Votes : (Sl Int)
  Next : (Sl Int)
  Match : (Sl Int)
structure S_laws_Mail where
  Kind : Int
  From : Int
  To : Int
  Term : Int
  Index : Int
  Last : Int
  Commit : Int
  Ok : Bool
  Entries : (Sl S_laws_Entry)
structure S_impl_Won where
  Term : Int
  Node : Int
structure S_laws_Seal where
  Term : Int
  Entry : S_laws_Entry
structure S_laws_Cluster where
  Nodes : (Sl S_laws_Node)
  Mails : (Sl S_laws_Mail)
  Wins : (Sl S_impl_Won)
  Seals : (Sl S_laws_Seal)
structure S_impl_Entry where
  Term : Int
  Client : Int
  Seq : Int
  Cmd : S_impl_Cmd
structure S_impl_Node where
  Id : Int
  Peers : Int
  Term : Int
  Voted : Int
  Log : (Sl S_impl_Entry)
  Role : Int
  Commit : Int
  Votes : (Sl Int)
  Next : (Sl Int)
  Match : (Sl Int)
structure S_impl_Mail where
  Kind : Int
  From : Int
  To : Int
  Term : Int
  Index : Int
  Last : Int
  Commit : Int
  Ok : Bool
  Entries : (Sl S_impl_Entry)
structure S_impl_Seal where
  Term : Int
  Entry : S_impl_Entry
structure S_impl_Cluster where
  Nodes : (Sl S_impl_Node)
  Mails : (Sl S_impl_Mail)
  Wins : (Sl S_impl_Won)
  Seals : (Sl S_impl_Seal)
inductive RT where
  | i64
  | laws_Entry
  | laws_Node
  | laws_Mail
  | impl_Won
  | laws_Seal
  | impl_Entry
  | impl_Node
  | impl_Mail
  | impl_Seal

def RT.no : RT → Nat
  | .i64 => 0
  | .laws_Entry => 1
  | .laws_Node => 2
  | .laws_Mail => 3
  | .impl_Won => 4
  | .laws_Seal => 5
  | .impl_Entry => 6
  | .impl_Node => 7
  | .impl_Mail => 8
  | .impl_Seal => 9

instance : DecidableEq RT := fun a b => if h : a.no = b.no then isTrue (by cases a <;> cases b <;> first | rfl | (cases h)) else isFalse (fun e => h (by rw [e]))
def den : RT → Type
  | .i64 => Int
  | .laws_Entry => S_laws_Entry
  | .laws_Node => S_laws_Node
  | .laws_Mail => S_laws_Mail
  | .impl_Won => S_impl_Won
  | .laws_Seal => S_laws_Seal
  | .impl_Entry => S_impl_Entry
  | .impl_Node => S_impl_Node
  | .impl_Mail => S_impl_Mail
  | .impl_Seal => S_impl_Seal

def W_i64 (n : Int) : Prop := (Lit.int .i64 n).wf = true
def W_impl_Cmd (x : S_impl_Cmd) : Prop := W_i64 x.Kind ∧ W_i64 x.Expect ∧ W_i64 x.Name ∧ W_i64 x.Addr ∧ W_i64 x.Number ∧ W_i64 x.Proto
def W_laws_Entry (x : S_laws_Entry) : Prop := W_i64 x.Term ∧ W_i64 x.Client ∧ W_i64 x.Seq ∧ W_impl_Cmd x.Cmd
def W_sl_laws_Entry (x : (Sl S_laws_Entry)) : Prop := x.n ≤ maxLen ∧ ∀ i, i < x.n → W_laws_Entry (x.f i)
def W_sl_i64 (x : (Sl Int)) : Prop := x.n ≤ maxLen ∧ ∀ i, i < x.n → W_i64 (x.f i)
def W_laws_Node (x : S_laws_Node) : Prop := W_i64 x.Id ∧ W_i64 x.Peers ∧ W_i64 x.Term ∧ W_i64 x.Voted ∧ W_sl_laws_Entry x.Log ∧ W_i64 x.Role ∧ W_i64 x.Commit ∧ W_sl_i64 x.Votes ∧ W_sl_i64 x.Next ∧ W_sl_i64 x.Match
def W_sl_laws_Node (x : (Sl S_laws_Node)) : Prop := x.n ≤ maxLen ∧ ∀ i, i < x.n → W_laws_Node (x.f i)
def W_bo (b : Bool) : Prop := True
def W_laws_Mail (x : S_laws_Mail) : Prop := W_i64 x.Kind ∧ W_i64 x.From ∧ W_i64 x.To ∧ W_i64 x.Term ∧ W_i64 x.Index ∧ W_i64 x.Last ∧ W_i64 x.Commit ∧ W_bo x.Ok ∧ W_sl_laws_Entry x.Entries
def W_sl_laws_Mail (x : (Sl S_laws_Mail)) : Prop := x.n ≤ maxLen ∧ ∀ i, i < x.n → W_laws_Mail (x.f i)
def W_impl_Won (x : S_impl_Won) : Prop := W_i64 x.Term ∧ W_i64 x.Node
def W_sl_impl_Won (x : (Sl S_impl_Won)) : Prop := x.n ≤ maxLen ∧ ∀ i, i < x.n → W_impl_Won (x.f i)
def W_laws_Seal (x : S_laws_Seal) : Prop := W_i64 x.Term ∧ W_laws_Entry x.Entry
def W_sl_laws_Seal (x : (Sl S_laws_Seal)) : Prop := x.n ≤ maxLen ∧ ∀ i, i < x.n → W_laws_Seal (x.f i)
def W_laws_Cluster (x : S_laws_Cluster) : Prop := W_sl_laws_Node x.Nodes ∧ W_sl_laws_Mail x.Mails ∧ W_sl_impl_Won x.Wins ∧ W_sl_laws_Seal x.Seals
def dflt : (τ : RT) → den τ
  | .i64 => (0 : Int)
  | .laws_Entry => (⟨0, 0, 0, ⟨0, 0, 0, 0, 0, 0⟩⟩ : S_laws_Entry)
  | .laws_Node => (⟨0, 0, 0, 0, ⟨some true, 0, fun _ => (⟨0, 0, 0, ⟨0, 0, 0, 0, 0, 0⟩⟩)⟩, 0, 0, ⟨some true, 0, fun _ => 0⟩, ⟨some true, 0, fun _ => 0⟩, ⟨some true, 0, fun _ => 0⟩⟩ : S_laws_Node)
  | .laws_Mail => (⟨0, 0, 0, 0, 0, 0, 0, false, ⟨some true, 0, fun _ => (⟨0, 0, 0, ⟨0, 0, 0, 0, 0, 0⟩⟩)⟩⟩ : S_laws_Mail)
  | .impl_Won => (⟨0, 0⟩ : S_impl_Won)
  | .laws_Seal => (⟨0, ⟨0, 0, 0, ⟨0, 0, 0, 0, 0, 0⟩⟩⟩ : S_laws_Seal)
  | .impl_Entry => (⟨0, 0, 0, ⟨0, 0, 0, 0, 0, 0⟩⟩ : S_impl_Entry)
  | .impl_Node => (⟨0, 0, 0, 0, ⟨some true, 0, fun _ => (⟨0, 0, 0, ⟨0, 0, 0, 0, 0, 0⟩⟩)⟩, 0, 0, ⟨some true, 0, fun _ => 0⟩, ⟨some true, 0, fun _ => 0⟩, ⟨some true, 0, fun _ => 0⟩⟩ : S_impl_Node)
  | .impl_Mail => (⟨0, 0, 0, 0, 0, 0, 0, false, ⟨some true, 0, fun _ => (⟨0, 0, 0, ⟨0, 0, 0, 0, 0, 0⟩⟩)⟩⟩ : S_impl_Mail)
  | .impl_Seal => (⟨0, ⟨0, 0, 0, ⟨0, 0, 0, 0, 0, 0⟩⟩⟩ : S_impl_Seal)

def cellsR : (τ : RT) → den τ → List (D RT den)
  | .i64, (x : Int) => [(.int .i64 x)]
  | .laws_Entry, (x : S_laws_Entry) => [(.int .i64 x.Term), (.int .i64 x.Client), (.int .i64 x.Seq), (.int .i64 x.Cmd.Kind), (.int .i64 x.Cmd.Expect), (.int .i64 x.Cmd.Name), (.int .i64 x.Cmd.Addr), (.int .i64 x.Cmd.Number), (.int .i64 x.Cmd.Proto)]
  | .laws_Node, (x : S_laws_Node) => [(.int .i64 x.Id), (.int .i64 x.Peers), (.int .i64 x.Term), (.int .i64 x.Voted), (.rs x.Log.z .laws_Entry x.Log.n x.Log.f), (.int .i64 x.Role), (.int .i64 x.Commit), (.rs x.Votes.z .i64 x.Votes.n x.Votes.f), (.rs x.Next.z .i64 x.Next.n x.Next.f), (.rs x.Match.z .i64 x.Match.n x.Match.f)]
  | .laws_Mail, (x : S_laws_Mail) => [(.int .i64 x.Kind), (.int .i64 x.From), (.int .i64 x.To), (.int .i64 x.Term), (.int .i64 x.Index), (.int .i64 x.Last), (.int .i64 x.Commit), (.bool x.Ok), (.rs x.Entries.z .laws_Entry x.Entries.n x.Entries.f)]
  | .impl_Won, (x : S_impl_Won) => [(.int .i64 x.Term), (.int .i64 x.Node)]
  | .laws_Seal, (x : S_laws_Seal) => [(.int .i64 x.Term), (.int .i64 x.Entry.Term), (.int .i64 x.Entry.Client), (.int .i64 x.Entry.Seq), (.int .i64 x.Entry.Cmd.Kind), (.int .i64 x.Entry.Cmd.Expect), (.int .i64 x.Entry.Cmd.Name), (.int .i64 x.Entry.Cmd.Addr), (.int .i64 x.Entry.Cmd.Number), (.int .i64 x.Entry.Cmd.Proto)]
  | .impl_Entry, (x : S_impl_Entry) => [(.int .i64 x.Term), (.int .i64 x.Client), (.int .i64 x.Seq), (.int .i64 x.Cmd.Kind), (.int .i64 x.Cmd.Expect), (.int .i64 x.Cmd.Name), (.int .i64 x.Cmd.Addr), (.int .i64 x.Cmd.Number), (.int .i64 x.Cmd.Proto)]
  | .impl_Node, (x : S_impl_Node) => [(.int .i64 x.Id), (.int .i64 x.Peers), (.int .i64 x.Term), (.int .i64 x.Voted), (.rs x.Log.z .impl_Entry x.Log.n x.Log.f), (.int .i64 x.Role), (.int .i64 x.Commit), (.rs x.Votes.z .i64 x.Votes.n x.Votes.f), (.rs x.Next.z .i64 x.Next.n x.Next.f), (.rs x.Match.z .i64 x.Match.n x.Match.f)]
  | .impl_Mail, (x : S_impl_Mail) => [(.int .i64 x.Kind), (.int .i64 x.From), (.int .i64 x.To), (.int .i64 x.Term), (.int .i64 x.Index), (.int .i64 x.Last), (.int .i64 x.Commit), (.bool x.Ok), (.rs x.Entries.z .impl_Entry x.Entries.n x.Entries.f)]
  | .impl_Seal, (x : S_impl_Seal) => [(.int .i64 x.Term), (.int .i64 x.Entry.Term), (.int .i64 x.Entry.Client), (.int .i64 x.Entry.Seq), (.int .i64 x.Entry.Cmd.Kind), (.int .i64 x.Entry.Cmd.Expect), (.int .i64 x.Entry.Cmd.Name), (.int .i64 x.Entry.Cmd.Addr), (.int .i64 x.Entry.Cmd.Number), (.int .i64 x.Entry.Cmd.Proto)]

def dec_i64 (cs : List (D RT den)) : Option Int := match cs with | [.int .i64 a0_0] => some a0_0 | _ => none
theorem dec_i64_cells (cs : List (D RT den)) (x : Int) (h : dec_i64 cs = some x) : cellsR .i64 x = cs := by
  unfold dec_i64 at h
  split at h
  · cases h; rfl
  · cases h
def dec_laws_Entry (cs : List (D RT den)) : Option S_laws_Entry := match cs with | [.int .i64 a0_1, .int .i64 a0_2, .int .i64 a0_3, .int .i64 a0_5, .int .i64 a0_6, .int .i64 a0_7, .int .i64 a0_8, .int .i64 a0_9, .int .i64 a0_10] => some (⟨a0_1, a0_2, a0_3, (⟨a0_5, a0_6, a0_7, a0_8, a0_9, a0_10⟩ : S_impl_Cmd)⟩ : S_laws_Entry) | _ => none
theorem dec_laws_Entry_cells (cs : List (D RT den)) (x : S_laws_Entry) (h : dec_laws_Entry cs = some x) : cellsR .laws_Entry x = cs := by
  unfold dec_laws_Entry at h
  split at h
  · cases h; rfl
  · cases h
def dec_laws_Node (cs : List (D RT den)) : Option S_laws_Node := match cs with | [.int .i64 a0_1, .int .i64 a0_2, .int .i64 a0_3, .int .i64 a0_4, .rs za0_5 .laws_Entry na0_5 fa0_5, .int .i64 a0_6, .int .i64 a0_7, .rs za0_8 .i64 na0_8 fa0_8, .rs za0_9 .i64 na0_9 fa0_9, .rs za0_10 .i64 na0_10 fa0_10] => some (⟨a0_1, a0_2, a0_3, a0_4, (⟨za0_5, na0_5, fa0_5⟩ : (Sl S_laws_Entry)), a0_6, a0_7, (⟨za0_8, na0_8, fa0_8⟩ : (Sl Int)), (⟨za0_9, na0_9, fa0_9⟩ : (Sl Int)), (⟨za0_10, na0_10, fa0_10⟩ : (Sl Int))⟩ : S_laws_Node) | _ => none
theorem dec_laws_Node_cells (cs : List (D RT den)) (x : S_laws_Node) (h : dec_laws_Node cs = some x) : cellsR .laws_Node x = cs := by
  unfold dec_laws_Node at h
  split at h
  · cases h; rfl
  · cases h
def dec_laws_Mail (cs : List (D RT den)) : Option S_laws_Mail := match cs with | [.int .i64 a0_1, .int .i64 a0_2, .int .i64 a0_3, .int .i64 a0_4, .int .i64 a0_5, .int .i64 a0_6, .int .i64 a0_7, .bool a0_8, .rs za0_9 .laws_Entry na0_9 fa0_9] => some (⟨a0_1, a0_2, a0_3, a0_4, a0_5, a0_6, a0_7, a0_8, (⟨za0_9, na0_9, fa0_9⟩ : (Sl S_laws_Entry))⟩ : S_laws_Mail) | _ => none
theorem dec_laws_Mail_cells (cs : List (D RT den)) (x : S_laws_Mail) (h : dec_laws_Mail cs = some x) : cellsR .laws_Mail x = cs := by
  unfold dec_laws_Mail at h
  split at h
  · cases h; rfl
  · cases h
def dec_impl_Won (cs : List (D RT den)) : Option S_impl_Won := match cs with | [.int .i64 a0_1, .int .i64 a0_2] => some (⟨a0_1, a0_2⟩ : S_impl_Won) | _ => none
theorem dec_impl_Won_cells (cs : List (D RT den)) (x : S_impl_Won) (h : dec_impl_Won cs = some x) : cellsR .impl_Won x = cs := by
  unfold dec_impl_Won at h
  split at h
  · cases h; rfl
  · cases h
def dec_laws_Seal (cs : List (D RT den)) : Option S_laws_Seal := match cs with | [.int .i64 a0_1, .int .i64 a0_3, .int .i64 a0_4, .int .i64 a0_5, .int .i64 a0_7, .int .i64 a0_8, .int .i64 a0_9, .int .i64 a0_10, .int .i64 a0_11, .int .i64 a0_12] => some (⟨a0_1, (⟨a0_3, a0_4, a0_5, (⟨a0_7, a0_8, a0_9, a0_10, a0_11, a0_12⟩ : S_impl_Cmd)⟩ : S_laws_Entry)⟩ : S_laws_Seal) | _ => none
theorem dec_laws_Seal_cells (cs : List (D RT den)) (x : S_laws_Seal) (h : dec_laws_Seal cs = some x) : cellsR .laws_Seal x = cs := by
  unfold dec_laws_Seal at h
  split at h
  · cases h; rfl
  · cases h
def dec_impl_Entry (cs : List (D RT den)) : Option S_impl_Entry := match cs with | [.int .i64 a0_1, .int .i64 a0_2, .int .i64 a0_3, .int .i64 a0_5, .int .i64 a0_6, .int .i64 a0_7, .int .i64 a0_8, .int .i64 a0_9, .int .i64 a0_10] => some (⟨a0_1, a0_2, a0_3, (⟨a0_5, a0_6, a0_7, a0_8, a0_9, a0_10⟩ : S_impl_Cmd)⟩ : S_impl_Entry) | _ => none
theorem dec_impl_Entry_cells (cs : List (D RT den)) (x : S_impl_Entry) (h : dec_impl_Entry cs = some x) : cellsR .impl_Entry x = cs := by
  unfold dec_impl_Entry at h
  split at h
  · cases h; rfl
  · cases h
def dec_impl_Node (cs : List (D RT den)) : Option S_impl_Node := match cs with | [.int .i64 a0_1, .int .i64 a0_2, .int .i64 a0_3, .int .i64 a0_4, .rs za0_5 .impl_Entry na0_5 fa0_5, .int .i64 a0_6, .int .i64 a0_7, .rs za0_8 .i64 na0_8 fa0_8, .rs za0_9 .i64 na0_9 fa0_9, .rs za0_10 .i64 na0_10 fa0_10] => some (⟨a0_1, a0_2, a0_3, a0_4, (⟨za0_5, na0_5, fa0_5⟩ : (Sl S_impl_Entry)), a0_6, a0_7, (⟨za0_8, na0_8, fa0_8⟩ : (Sl Int)), (⟨za0_9, na0_9, fa0_9⟩ : (Sl Int)), (⟨za0_10, na0_10, fa0_10⟩ : (Sl Int))⟩ : S_impl_Node) | _ => none
theorem dec_impl_Node_cells (cs : List (D RT den)) (x : S_impl_Node) (h : dec_impl_Node cs = some x) : cellsR .impl_Node x = cs := by
  unfold dec_impl_Node at h
  split at h
  · cases h; rfl
  · cases h
def dec_impl_Mail (cs : List (D RT den)) : Option S_impl_Mail := match cs with | [.int .i64 a0_1, .int .i64 a0_2, .int .i64 a0_3, .int .i64 a0_4, .int .i64 a0_5, .int .i64 a0_6, .int .i64 a0_7, .bool a0_8, .rs za0_9 .impl_Entry na0_9 fa0_9] => some (⟨a0_1, a0_2, a0_3, a0_4, a0_5, a0_6, a0_7, a0_8, (⟨za0_9, na0_9, fa0_9⟩ : (Sl S_impl_Entry))⟩ : S_impl_Mail) | _ => none
theorem dec_impl_Mail_cells (cs : List (D RT den)) (x : S_impl_Mail) (h : dec_impl_Mail cs = some x) : cellsR .impl_Mail x = cs := by
  unfold dec_impl_Mail at h
  split at h
  · cases h; rfl
  · cases h
def dec_impl_Seal (cs : List (D RT den)) : Option S_impl_Seal := match cs with | [.int .i64 a0_1, .int .i64 a0_3, .int .i64 a0_4, .int .i64 a0_5, .int .i64 a0_7, .int .i64 a0_8, .int .i64 a0_9, .int .i64 a0_10, .int .i64 a0_11, .int .i64 a0_12] => some (⟨a0_1, (⟨a0_3, a0_4, a0_5, (⟨a0_7, a0_8, a0_9, a0_10, a0_11, a0_12⟩ : S_impl_Cmd)⟩ : S_impl_Entry)⟩ : S_impl_Seal) | _ => none
theorem dec_impl_Seal_cells (cs : List (D RT den)) (x : S_impl_Seal) (h : dec_impl_Seal cs = some x) : cellsR .impl_Seal x = cs := by
  unfold dec_impl_Seal at h
  split at h
  · cases h; rfl
  · cases h
def decR : (τ : RT) → List (D RT den) → Option (den τ)
  | .i64, cs => dec_i64 cs
  | .laws_Entry, cs => dec_laws_Entry cs
  | .laws_Node, cs => dec_laws_Node cs
  | .laws_Mail, cs => dec_laws_Mail cs
  | .impl_Won, cs => dec_impl_Won cs
  | .laws_Seal, cs => dec_laws_Seal cs
  | .impl_Entry, cs => dec_impl_Entry cs
  | .impl_Node, cs => dec_impl_Node cs
  | .impl_Mail, cs => dec_impl_Mail cs
  | .impl_Seal, cs => dec_impl_Seal cs

def sizeR : RT → Nat
  | .i64 => 1
  | .laws_Entry => 9
  | .laws_Node => 10
  | .laws_Mail => 9
  | .impl_Won => 2
  | .laws_Seal => 10
  | .impl_Entry => 9
  | .impl_Node => 10
  | .impl_Mail => 9
  | .impl_Seal => 10

def rtl : List (Nat × RT) := [(2, .i64), (75, .laws_Node), (78, .laws_Mail), (82, .impl_Node), (85, .impl_Mail), (89, .impl_Won), (93, .impl_Entry), (95, .impl_Seal), (100, .impl_Won), (104, .laws_Entry), (106, .laws_Seal)]
def zs : List (Nat × List (D RT den)) := [(2, [(.int .i64 0)]), (35, [(.emp true .impl_Node), (.emp true .impl_Mail), (.emp true .impl_Won), (.emp true .impl_Seal)]), (39, [(.emp true .impl_Entry)]), (82, [(.int .i64 0), (.int .i64 0), (.int .i64 0), (.int .i64 0), (.emp true .impl_Entry), (.int .i64 0), (.int .i64 0), (.emp true .i64), (.emp true .i64), (.emp true .i64)]), (85, [(.int .i64 0), (.int .i64 0), (.int .i64 0), (.int .i64 0), (.int .i64 0), (.int .i64 0), (.int .i64 0), (.bool false), (.emp true .impl_Entry)]), (89, [(.int .i64 0), (.int .i64 0)]), (91, [(.int .i64 0), (.int .i64 0), (.int .i64 0), (.int .i64 0), (.int .i64 0), (.int .i64 0)]), (93, [(.int .i64 0), (.int .i64 0), (.int .i64 0), (.int .i64 0), (.int .i64 0), (.int .i64 0), (.int .i64 0), (.int .i64 0), (.int .i64 0)]), (95, [(.int .i64 0), (.int .i64 0), (.int .i64 0), (.int .i64 0), (.int .i64 0), (.int .i64 0), (.int .i64 0), (.int .i64 0), (.int .i64 0), (.int .i64 0)])]
def tbl : List (Nat × TI) := [(2, ⟨1, 8, false, none, [], false, none, false, none⟩),
  (4, ⟨1, 1, false, none, [], false, none, true, none⟩),
  (22, ⟨1, 24, false, some 75, [], false, none, false, none⟩),
  (23, ⟨1, 24, false, some 78, [], false, none, false, none⟩),
  (24, ⟨1, 24, false, some 100, [], false, none, false, none⟩),
  (25, ⟨1, 24, false, some 106, [], false, none, false, none⟩),
  (27, ⟨4, 96, true, none, [(0, 22), (1, 23), (2, 24), (3, 25)], false, none, false, none⟩),
  (30, ⟨1, 24, false, some 82, [], false, none, false, none⟩),
  (31, ⟨1, 24, false, some 85, [], false, none, false, none⟩),
  (32, ⟨1, 24, false, some 89, [], false, none, false, none⟩),
  (33, ⟨1, 24, false, some 95, [], false, none, false, none⟩),
  (35, ⟨4, 96, true, none, [(0, 30), (1, 31), (2, 32), (3, 33)], false, none, false, none⟩),
  (39, ⟨1, 24, false, some 93, [], false, none, false, none⟩),
  (72, ⟨1, 24, false, some 104, [], false, none, false, none⟩),
  (73, ⟨1, 24, false, some 2, [], false, none, false, none⟩),
  (75, ⟨10, 144, true, none, [(0, 2), (1, 2), (2, 2), (3, 2), (4, 72), (5, 2), (6, 2), (7, 73), (8, 73), (9, 73)], false, none, false, none⟩),
  (78, ⟨9, 88, true, none, [(0, 2), (1, 2), (2, 2), (3, 2), (4, 2), (5, 2), (6, 2), (7, 4), (8, 72)], false, none, false, none⟩),
  (82, ⟨10, 144, true, none, [(0, 2), (1, 2), (2, 2), (3, 2), (4, 39), (5, 2), (6, 2), (7, 73), (8, 73), (9, 73)], false, none, false, none⟩),
  (85, ⟨9, 88, true, none, [(0, 2), (1, 2), (2, 2), (3, 2), (4, 2), (5, 2), (6, 2), (7, 4), (8, 39)], false, none, false, none⟩),
  (89, ⟨2, 16, true, none, [(0, 2), (1, 2)], false, none, false, none⟩),
  (91, ⟨6, 48, true, none, [(0, 2), (1, 2), (2, 2), (3, 2), (4, 2), (5, 2)], true, (some [true, true, true, true, true, true]), false, none⟩),
  (93, ⟨9, 72, true, none, [(0, 2), (1, 2), (2, 2), (3, 91)], true, (some [true, true, true, true, true, true, true, true, true]), false, none⟩),
  (95, ⟨10, 80, true, none, [(0, 2), (1, 93)], false, none, false, none⟩),
  (100, ⟨2, 16, true, none, [(0, 2), (1, 2)], false, none, false, none⟩),
  (102, ⟨6, 48, true, none, [(0, 2), (1, 2), (2, 2), (3, 2), (4, 2), (5, 2)], false, none, false, none⟩),
  (104, ⟨9, 72, true, none, [(0, 2), (1, 2), (2, 2), (3, 102)], false, none, false, none⟩),
  (106, ⟨10, 80, true, none, [(0, 2), (1, 104)], false, none, false, none⟩)]
noncomputable def fnT (f : Nat) : Option Func := match f with
  | 3 => some Try.f3
  | 4 => some Try.f4
  | 5 => some Try.f5
  | 7 => some Try.f7
  | 8 => some Try.f8
  | 9 => some Try.f9
  | 10 => some Try.f10
  | 11 => some Try.f11
  | 12 => some Try.f12
  | 13 => some Try.f13
  | 14 => some Try.f14
  | 15 => some Try.f15
  | 22 => some Try.f22
  | 23 => some Try.f23
  | 24 => some Try.f24
  | 25 => some Try.f25
  | 26 => some Try.f26
  | 27 => some Try.f27
  | 28 => some Try.f28
  | 29 => some Try.f29
  | 30 => some Try.f30
  | 31 => some Try.f31
  | 32 => some Try.f32
  | 33 => some Try.f33
  | 34 => some Try.f34
  | 35 => some Try.f35
  | 36 => some Try.f36
  | 37 => some Try.f37
  | 38 => some Try.f38
  | 39 => some Try.f39
  | 40 => some Try.f40
  | 41 => some Try.f41
  | 42 => some Try.f42
  | 43 => some Try.f43
  | 45 => some Try.f45
  | 46 => some Try.f46
  | 53 => some Try.f53
  | 54 => some Try.f54
  | 55 => some Try.f55
  | 56 => some Try.f56
  | 57 => some Try.f57
  | 58 => some Try.f58
  | 59 => some Try.f59
  | 60 => some Try.f60
  | 61 => some Try.f61
  | 62 => some Try.f62
  | 63 => some Try.f63
  | 64 => some Try.f64
  | 65 => some Try.f65
  | 66 => some Try.f66
  | 67 => some Try.f67
  | 68 => some Try.f68
  | 69 => some Try.f69
  | 70 => some Try.f70
  | 71 => some Try.f71
  | 72 => some Try.f72
  | 73 => some Try.f73
  | 74 => some Try.f74
  | 75 => some Try.f75
  | 76 => some Try.f76
  | 77 => some Try.f77
  | 78 => some Try.f78
  | 79 => some Try.f79
  | 81 => some Try.f81
  | 82 => some Try.f82
  | 83 => some Try.f83
  | 84 => some Try.f84
  | 85 => some Try.f85
  | 86 => some Try.f86
  | 87 => some Try.f87
  | 88 => some Try.f88
  | 89 => some Try.f89
  | 90 => some Try.f90
  | 91 => some Try.f91
  | 92 => some Try.f92
  | 93 => some Try.f93
  | 94 => some Try.f94
  | 95 => some Try.f95
  | 96 => some Try.f96
  | 97 => some Try.f97
  | 98 => some Try.f98
  | 99 => some Try.f99
  | 100 => some Try.f100
  | 101 => some Try.f101
  | 102 => some Try.f102
  | 103 => some Try.f103
  | 104 => some Try.f104
  | 105 => some Try.f105
  | 106 => some Try.f106
  | 107 => some Try.f107
  | 108 => some Try.f108
  | 109 => some Try.f109
  | 110 => some Try.f110
  | 111 => some Try.f111
  | 112 => some Try.f112
  | 113 => some Try.f113
  | 114 => some Try.f114
  | 115 => some Try.f115
  | 116 => some Try.f116
  | 117 => some Try.f117
  | 118 => some Try.f118
  | 119 => some Try.f119
  | 120 => some Try.f120
  | _ => none
def parT (f : Nat) : List Nat := []
def R : Vm.Rows RT den := ⟨fun t => rtl.lookup t, sizeR, cellsR, decR, (fun a b => decEq a b), dflt, fun t => zs.lookup t⟩
noncomputable def E : Env RT den := envOf Try.prog tbl R zs fnT parT
theorem rows_ok : RowsOk R tbl where
  size := by intro τ x; cases τ <;> rfl
  dec := by
    intro τ cs x h
    cases τ
    · exact dec_i64_cells cs x h
    · exact dec_laws_Entry_cells cs x h
    · exact dec_laws_Node_cells cs x h
    · exact dec_laws_Mail_cells cs x h
    · exact dec_impl_Won_cells cs x h
    · exact dec_laws_Seal_cells cs x h
    · exact dec_impl_Entry_cells cs x h
    · exact dec_impl_Node_cells cs x h
    · exact dec_impl_Mail_cells cs x h
    · exact dec_impl_Seal_cells cs x h
  pure := by intro τ x; cases τ <;> rfl
  rt := rt_of (by kernel_rfl)
theorem fn_ok : ∀ f g, fnT f = some g → Try.prog.funcs[f]? = some g := by
  intro f g h
  unfold fnT at h
  split at h <;> first | (cases h; kernel_rfl) | cases h
theorem E_ok : Ok E Try.prog := envOf_ok (by kernel_rfl) (by kernel_rfl) (by kernel_rfl) fn_ok rows_ok (by kernel_rfl)
def enc_i64 (y : Int) : D RT den := (.int .i64 y)
def out_i64 (d : D RT den) : Option (Int) := match d with | .int .i64 a0_0 => some a0_0 | _ => none
theorem out_i64_enc (d : D RT den) (y : Int) (h : out_i64 d = some y) : d = enc_i64 y := by
  unfold out_i64 at h
  split at h
  · cases h; rfl
  · cases h
def enc_impl_Cmd (y : S_impl_Cmd) : D RT den := (.agg [(.int .i64 y.Kind), (.int .i64 y.Expect), (.int .i64 y.Name), (.int .i64 y.Addr), (.int .i64 y.Number), (.int .i64 y.Proto)])
def out_impl_Cmd (d : D RT den) : Option (S_impl_Cmd) := match d with | .agg [.int .i64 a0_1, .int .i64 a0_2, .int .i64 a0_3, .int .i64 a0_4, .int .i64 a0_5, .int .i64 a0_6] => some (⟨a0_1, a0_2, a0_3, a0_4, a0_5, a0_6⟩ : S_impl_Cmd) | _ => none
theorem out_impl_Cmd_enc (d : D RT den) (y : S_impl_Cmd) (h : out_impl_Cmd d = some y) : d = enc_impl_Cmd y := by
  unfold out_impl_Cmd at h
  split at h
  · cases h; rfl
  · cases h
def enc_impl_Entry (y : S_impl_Entry) : D RT den := (.agg [(.int .i64 y.Term), (.int .i64 y.Client), (.int .i64 y.Seq), (.int .i64 y.Cmd.Kind), (.int .i64 y.Cmd.Expect), (.int .i64 y.Cmd.Name), (.int .i64 y.Cmd.Addr), (.int .i64 y.Cmd.Number), (.int .i64 y.Cmd.Proto)])
def out_impl_Entry (d : D RT den) : Option (S_impl_Entry) := match d with | .agg [.int .i64 a0_1, .int .i64 a0_2, .int .i64 a0_3, .int .i64 a0_5, .int .i64 a0_6, .int .i64 a0_7, .int .i64 a0_8, .int .i64 a0_9, .int .i64 a0_10] => some (⟨a0_1, a0_2, a0_3, (⟨a0_5, a0_6, a0_7, a0_8, a0_9, a0_10⟩ : S_impl_Cmd)⟩ : S_impl_Entry) | _ => none
theorem out_impl_Entry_enc (d : D RT den) (y : S_impl_Entry) (h : out_impl_Entry d = some y) : d = enc_impl_Entry y := by
  unfold out_impl_Entry at h
  split at h
  · cases h; rfl
  · cases h
def enc_sl_impl_Entry (y : (Sl S_impl_Entry)) : D RT den := (.rs y.z .impl_Entry y.n y.f)
def out_sl_impl_Entry (d : D RT den) : Option ((Sl S_impl_Entry)) := match d with | .rs za0_0 .impl_Entry na0_0 fa0_0 => some (⟨za0_0, na0_0, fa0_0⟩ : (Sl S_impl_Entry)) | _ => none
theorem out_sl_impl_Entry_enc (d : D RT den) (y : (Sl S_impl_Entry)) (h : out_sl_impl_Entry d = some y) : d = enc_sl_impl_Entry y := by
  unfold out_sl_impl_Entry at h
  split at h
  · cases h; rfl
  · cases h
def enc_sl_i64 (y : (Sl Int)) : D RT den := (.rs y.z .i64 y.n y.f)
def out_sl_i64 (d : D RT den) : Option ((Sl Int)) := match d with | .rs za0_0 .i64 na0_0 fa0_0 => some (⟨za0_0, na0_0, fa0_0⟩ : (Sl Int)) | _ => none
theorem out_sl_i64_enc (d : D RT den) (y : (Sl Int)) (h : out_sl_i64 d = some y) : d = enc_sl_i64 y := by
  unfold out_sl_i64 at h
  split at h
  · cases h; rfl
  · cases h
def enc_impl_Node (y : S_impl_Node) : D RT den := (.agg [(.int .i64 y.Id), (.int .i64 y.Peers), (.int .i64 y.Term), (.int .i64 y.Voted), (.rs y.Log.z .impl_Entry y.Log.n y.Log.f), (.int .i64 y.Role), (.int .i64 y.Commit), (.rs y.Votes.z .i64 y.Votes.n y.Votes.f), (.rs y.Next.z .i64 y.Next.n y.Next.f), (.rs y.Match.z .i64 y.Match.n y.Match.f)])
def out_impl_Node (d : D RT den) : Option (S_impl_Node) := match d with | .agg [.int .i64 a0_1, .int .i64 a0_2, .int .i64 a0_3, .int .i64 a0_4, .rs za0_5 .impl_Entry na0_5 fa0_5, .int .i64 a0_6, .int .i64 a0_7, .rs za0_8 .i64 na0_8 fa0_8, .rs za0_9 .i64 na0_9 fa0_9, .rs za0_10 .i64 na0_10 fa0_10] => some (⟨a0_1, a0_2, a0_3, a0_4, (⟨za0_5, na0_5, fa0_5⟩ : (Sl S_impl_Entry)), a0_6, a0_7, (⟨za0_8, na0_8, fa0_8⟩ : (Sl Int)), (⟨za0_9, na0_9, fa0_9⟩ : (Sl Int)), (⟨za0_10, na0_10, fa0_10⟩ : (Sl Int))⟩ : S_impl_Node) | _ => none
theorem out_impl_Node_enc (d : D RT den) (y : S_impl_Node) (h : out_impl_Node d = some y) : d = enc_impl_Node y := by
  unfold out_impl_Node at h
  split at h
  · cases h; rfl
  · cases h
def enc_sl_impl_Node (y : (Sl S_impl_Node)) : D RT den := (.rs y.z .impl_Node y.n y.f)
def out_sl_impl_Node (d : D RT den) : Option ((Sl S_impl_Node)) := match d with | .rs za0_0 .impl_Node na0_0 fa0_0 => some (⟨za0_0, na0_0, fa0_0⟩ : (Sl S_impl_Node)) | _ => none
theorem out_sl_impl_Node_enc (d : D RT den) (y : (Sl S_impl_Node)) (h : out_sl_impl_Node d = some y) : d = enc_sl_impl_Node y := by
  unfold out_sl_impl_Node at h
  split at h
  · cases h; rfl
  · cases h
def enc_impl_Mail (y : S_impl_Mail) : D RT den := (.agg [(.int .i64 y.Kind), (.int .i64 y.From), (.int .i64 y.To), (.int .i64 y.Term), (.int .i64 y.Index), (.int .i64 y.Last), (.int .i64 y.Commit), (.bool y.Ok), (.rs y.Entries.z .impl_Entry y.Entries.n y.Entries.f)])
def out_impl_Mail (d : D RT den) : Option (S_impl_Mail) := match d with | .agg [.int .i64 a0_1, .int .i64 a0_2, .int .i64 a0_3, .int .i64 a0_4, .int .i64 a0_5, .int .i64 a0_6, .int .i64 a0_7, .bool a0_8, .rs za0_9 .impl_Entry na0_9 fa0_9] => some (⟨a0_1, a0_2, a0_3, a0_4, a0_5, a0_6, a0_7, a0_8, (⟨za0_9, na0_9, fa0_9⟩ : (Sl S_impl_Entry))⟩ : S_impl_Mail) | _ => none
theorem out_impl_Mail_enc (d : D RT den) (y : S_impl_Mail) (h : out_impl_Mail d = some y) : d = enc_impl_Mail y := by
  unfold out_impl_Mail at h
  split at h
  · cases h; rfl
  · cases h
def enc_sl_impl_Mail (y : (Sl S_impl_Mail)) : D RT den := (.rs y.z .impl_Mail y.n y.f)
def out_sl_impl_Mail (d : D RT den) : Option ((Sl S_impl_Mail)) := match d with | .rs za0_0 .impl_Mail na0_0 fa0_0 => some (⟨za0_0, na0_0, fa0_0⟩ : (Sl S_impl_Mail)) | _ => none
theorem out_sl_impl_Mail_enc (d : D RT den) (y : (Sl S_impl_Mail)) (h : out_sl_impl_Mail d = some y) : d = enc_sl_impl_Mail y := by
  unfold out_sl_impl_Mail at h
  split at h
  · cases h; rfl
  · cases h
def enc_impl_Won (y : S_impl_Won) : D RT den := (.agg [(.int .i64 y.Term), (.int .i64 y.Node)])
def out_impl_Won (d : D RT den) : Option (S_impl_Won) := match d with | .agg [.int .i64 a0_1, .int .i64 a0_2] => some (⟨a0_1, a0_2⟩ : S_impl_Won) | _ => none
theorem out_impl_Won_enc (d : D RT den) (y : S_impl_Won) (h : out_impl_Won d = some y) : d = enc_impl_Won y := by
  unfold out_impl_Won at h
  split at h
  · cases h; rfl
  · cases h
def enc_sl_impl_Won (y : (Sl S_impl_Won)) : D RT den := (.rs y.z .impl_Won y.n y.f)
def out_sl_impl_Won (d : D RT den) : Option ((Sl S_impl_Won)) := match d with | .rs za0_0 .impl_Won na0_0 fa0_0 => some (⟨za0_0, na0_0, fa0_0⟩ : (Sl S_impl_Won)) | _ => none
theorem out_sl_impl_Won_enc (d : D RT den) (y : (Sl S_impl_Won)) (h : out_sl_impl_Won d = some y) : d = enc_sl_impl_Won y := by
  unfold out_sl_impl_Won at h
  split at h
  · cases h; rfl
  · cases h
def enc_impl_Seal (y : S_impl_Seal) : D RT den := (.agg [(.int .i64 y.Term), (.int .i64 y.Entry.Term), (.int .i64 y.Entry.Client), (.int .i64 y.Entry.Seq), (.int .i64 y.Entry.Cmd.Kind), (.int .i64 y.Entry.Cmd.Expect), (.int .i64 y.Entry.Cmd.Name), (.int .i64 y.Entry.Cmd.Addr), (.int .i64 y.Entry.Cmd.Number), (.int .i64 y.Entry.Cmd.Proto)])
def out_impl_Seal (d : D RT den) : Option (S_impl_Seal) := match d with | .agg [.int .i64 a0_1, .int .i64 a0_3, .int .i64 a0_4, .int .i64 a0_5, .int .i64 a0_7, .int .i64 a0_8, .int .i64 a0_9, .int .i64 a0_10, .int .i64 a0_11, .int .i64 a0_12] => some (⟨a0_1, (⟨a0_3, a0_4, a0_5, (⟨a0_7, a0_8, a0_9, a0_10, a0_11, a0_12⟩ : S_impl_Cmd)⟩ : S_impl_Entry)⟩ : S_impl_Seal) | _ => none
theorem out_impl_Seal_enc (d : D RT den) (y : S_impl_Seal) (h : out_impl_Seal d = some y) : d = enc_impl_Seal y := by
  unfold out_impl_Seal at h
  split at h
  · cases h; rfl
  · cases h
def enc_sl_impl_Seal (y : (Sl S_impl_Seal)) : D RT den := (.rs y.z .impl_Seal y.n y.f)
def out_sl_impl_Seal (d : D RT den) : Option ((Sl S_impl_Seal)) := match d with | .rs za0_0 .impl_Seal na0_0 fa0_0 => some (⟨za0_0, na0_0, fa0_0⟩ : (Sl S_impl_Seal)) | _ => none
theorem out_sl_impl_Seal_enc (d : D RT den) (y : (Sl S_impl_Seal)) (h : out_sl_impl_Seal d = some y) : d = enc_sl_impl_Seal y := by
  unfold out_sl_impl_Seal at h
  split at h
  · cases h; rfl
  · cases h
def enc_impl_Cluster (y : S_impl_Cluster) : D RT den := (.agg [(.rs y.Nodes.z .impl_Node y.Nodes.n y.Nodes.f), (.rs y.Mails.z .impl_Mail y.Mails.n y.Mails.f), (.rs y.Wins.z .impl_Won y.Wins.n y.Wins.f), (.rs y.Seals.z .impl_Seal y.Seals.n y.Seals.f)])
def out_impl_Cluster (d : D RT den) : Option (S_impl_Cluster) := match d with | .agg [.rs za0_1 .impl_Node na0_1 fa0_1, .rs za0_2 .impl_Mail na0_2 fa0_2, .rs za0_3 .impl_Won na0_3 fa0_3, .rs za0_4 .impl_Seal na0_4 fa0_4] => some (⟨(⟨za0_1, na0_1, fa0_1⟩ : (Sl S_impl_Node)), (⟨za0_2, na0_2, fa0_2⟩ : (Sl S_impl_Mail)), (⟨za0_3, na0_3, fa0_3⟩ : (Sl S_impl_Won)), (⟨za0_4, na0_4, fa0_4⟩ : (Sl S_impl_Seal))⟩ : S_impl_Cluster) | _ => none
theorem out_impl_Cluster_enc (d : D RT den) (y : S_impl_Cluster) (h : out_impl_Cluster d = some y) : d = enc_impl_Cluster y := by
  unfold out_impl_Cluster at h
  split at h
  · cases h; rfl
  · cases h
def enc_bo (y : Bool) : D RT den := (.bool y)
def out_bo (d : D RT den) : Option (Bool) := match d with | .bool a0_0 => some a0_0 | _ => none
theorem out_bo_enc (d : D RT den) (y : Bool) (h : out_bo d = some y) : d = enc_bo y := by
  unfold out_bo at h
  split at h
  · cases h; rfl
  · cases h
def enc_bo_bo_bo_bo (y : Bool × Bool × Bool × Bool) : D RT den := (.tup [(.bool y.1), (.bool y.2.1), (.bool y.2.2.1), (.bool y.2.2.2)])
def out_bo_bo_bo_bo (d : D RT den) : Option (Bool × Bool × Bool × Bool) := match d with | .tup [.bool a0_0, .bool a1_0, .bool a2_0, .bool a3_0] => some (a0_0, a1_0, a2_0, a3_0) | _ => none
theorem out_bo_bo_bo_bo_enc (d : D RT den) (y : Bool × Bool × Bool × Bool) (h : out_bo_bo_bo_bo d = some y) : d = enc_bo_bo_bo_bo y := by
  unfold out_bo_bo_bo_bo at h
  split at h
  · cases h; rfl
  · cases h
end Go.Proofs.Ytnfippmeficfjaa.Pc
