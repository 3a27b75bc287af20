/- The tables of the program's types for the value machine. Conditions: none. -/
import Derived.Test.YtmnbmponjhglcaaVmU
import Derived.Test.YtmnbmponjhglcaaVmO
import Derived.Test.YtmnbmponjhglcaaProg
import Derived.KernelRfl
namespace Go.Proofs.Ytmnbmponjhglcaa.Pc
open Go Go.RowKit Go.Proofs Vm
set_option linter.unusedVariables false
set_option linter.unusedSimpArgs false
set_option maxRecDepth 100000
structure S_impl_Cmd where
  Kind : Int
  Expect : Int
  Name : Int
  Addr : Int
  Number : Int
  Proto : Int
structure S_laws_Entry where
  Term : Int
  Client : Int
  Seq : Int
  Cmd : S_impl_Cmd
structure S_laws_Node where
  Id : Int
  Peers : Int
  Term : Int
  Voted : Int
  Log : (Sl S_laws_Entry)
  Role : Int
  Commit : Int
  Votes : (Sl Int)
  Next : (Sl Int)
  Match : (Sl Int)
structure S_laws_Mail where
  Kind : Int
  From : Int
  To : Int
  Term : Int
  Index : Int
  Last : Int
  Commit : Int
  Ok : Bool
  Entries : (Sl S_laws_Entry)
structure S_impl_Won where
  Term : Int
  Node : Int
structure S_laws_Seal where
  Term : Int
  Entry : S_laws_Entry
structure S_laws_Cluster where
  Nodes : (Sl S_laws_Node)
  Mails : (Sl S_laws_Mail)
  Wins : (Sl S_impl_Won)
  Seals : (Sl S_laws_Seal)
structure S_impl_Entry where
  Term : Int
  Client : Int
  Seq : Int
  Cmd : S_impl_Cmd
structure S_impl_Node where
  Id : Int
  Peers : Int
  Term : Int
  Voted : Int
  Log : (Sl S_impl_Entry)
  Role : Int
  Commit : Int
  Votes : (Sl Int)
  Next : (Sl Int)
  Match : (Sl Int)
structure S_impl_Mail where
  Kind : Int
  From : Int
  To : Int
  Term : Int
  Index : Int
  Last : Int
  Commit : Int
  Ok : Bool
  Entries : (Sl S_impl_Entry)
structure S_impl_Seal where
  Term : Int
  Entry : S_impl_Entry
structure S_impl_Cluster where
  Nodes : (Sl S_impl_Node)
  Mails : (Sl S_impl_Mail)
  Wins : (Sl S_impl_Won)
  Seals : (Sl S_impl_Seal)
structure S_impl_EntriesResult where
  Code : Int
  Entries : (Sl S_impl_Entry)
inductive RT where
  | i64
  | laws_Entry
  | laws_Node
  | laws_Mail
  | impl_Won
  | laws_Seal
  | impl_Entry
  | impl_Node
  | impl_Mail
  | impl_Seal

def RT.no : RT → Nat
  | .i64 => 0
  | .laws_Entry => 1
  | .laws_Node => 2
  | .laws_Mail => 3
  | .impl_Won => 4
  | .laws_Seal => 5
  | .impl_Entry => 6
  | .impl_Node => 7
  | .impl_Mail => 8
  | .impl_Seal => 9

instance : DecidableEq RT := fun a b => if h : a.no = b.no then isTrue (by cases a <;> cases b <;> first | rfl | (cases h)) else isFalse (fun e => h (by rw [e]))
def den : RT → Type
  | .i64 => Int
  | .laws_Entry => S_laws_Entry
  | .laws_Node => S_laws_Node
  | .laws_Mail => S_laws_Mail
  | .impl_Won => S_impl_Won
  | .laws_Seal => S_laws_Seal
  | .impl_Entry => S_impl_Entry
  | .impl_Node => S_impl_Node
  | .impl_Mail => S_impl_Mail
  | .impl_Seal => S_impl_Seal

def W_i64 (n : Int) : Prop := (Lit.int .i64 n).wf = true
def W_impl_Cmd (x : S_impl_Cmd) : Prop := W_i64 x.Kind ∧ W_i64 x.Expect ∧ W_i64 x.Name ∧ W_i64 x.Addr ∧ W_i64 x.Number ∧ W_i64 x.Proto
def W_laws_Entry (x : S_laws_Entry) : Prop := W_i64 x.Term ∧ W_i64 x.Client ∧ W_i64 x.Seq ∧ W_impl_Cmd x.Cmd
def W_sl_laws_Entry (x : (Sl S_laws_Entry)) : Prop := x.n ≤ maxLen ∧ ∀ i, i < x.n → W_laws_Entry (x.f i)
def W_sl_i64 (x : (Sl Int)) : Prop := x.n ≤ maxLen ∧ ∀ i, i < x.n → W_i64 (x.f i)
def W_laws_Node (x : S_laws_Node) : Prop := W_i64 x.Id ∧ W_i64 x.Peers ∧ W_i64 x.Term ∧ W_i64 x.Voted ∧ W_sl_laws_Entry x.Log ∧ W_i64 x.Role ∧ W_i64 x.Commit ∧ W_sl_i64 x.Votes ∧ W_sl_i64 x.Next ∧ W_sl_i64 x.Match
def W_sl_laws_Node (x : (Sl S_laws_Node)) : Prop := x.n ≤ maxLen ∧ ∀ i, i < x.n → W_laws_Node (x.f i)
def W_bo (b : Bool) : Prop := True
def W_laws_Mail (x : S_laws_Mail) : Prop := W_i64 x.Kind ∧ W_i64 x.From ∧ W_i64 x.To ∧ W_i64 x.Term ∧ W_i64 x.Index ∧ W_i64 x.Last ∧ W_i64 x.Commit ∧ W_bo x.Ok ∧ W_sl_laws_Entry x.Entries
def W_sl_laws_Mail (x : (Sl S_laws_Mail)) : Prop := x.n ≤ maxLen ∧ ∀ i, i < x.n → W_laws_Mail (x.f i)
def W_impl_Won (x : S_impl_Won) : Prop := W_i64 x.Term ∧ W_i64 x.Node
def W_sl_impl_Won (x : (Sl S_impl_Won)) : Prop := x.n ≤ maxLen ∧ ∀ i, i < x.n → W_impl_Won (x.f i)
def W_laws_Seal (x : S_laws_Seal) : Prop := W_i64 x.Term ∧ W_laws_Entry x.Entry
def W_sl_laws_Seal (x : (Sl S_laws_Seal)) : Prop := x.n ≤ maxLen ∧ ∀ i, i < x.n → W_laws_Seal (x.f i)
def W_laws_Cluster (x : S_laws_Cluster) : Prop := W_sl_laws_Node x.Nodes ∧ W_sl_laws_Mail x.Mails ∧ W_sl_impl_Won x.Wins ∧ W_sl_laws_Seal x.Seals
def dflt : (τ : RT) → den τ
  | .i64 => (0 : Int)
  | .laws_Entry => (⟨0, 0, 0, ⟨0, 0, 0, 0, 0, 0⟩⟩ : S_laws_Entry)
  | .laws_Node => (⟨0, 0, 0, 0, ⟨some true, 0, fun _ => (⟨0, 0, 0, ⟨0, 0, 0, 0, 0, 0⟩⟩)⟩, 0, 0, ⟨some true, 0, fun _ => 0⟩, ⟨some true, 0, fun _ => 0⟩, ⟨some true, 0, fun _ => 0⟩⟩ : S_laws_Node)
  | .laws_Mail => (⟨0, 0, 0, 0, 0, 0, 0, false, ⟨some true, 0, fun _ => (⟨0, 0, 0, ⟨0, 0, 0, 0, 0, 0⟩⟩)⟩⟩ : S_laws_Mail)
  | .impl_Won => (⟨0, 0⟩ : S_impl_Won)
  | .laws_Seal => (⟨0, ⟨0, 0, 0, ⟨0, 0, 0, 0, 0, 0⟩⟩⟩ : S_laws_Seal)
  | .impl_Entry => (⟨0, 0, 0, ⟨0, 0, 0, 0, 0, 0⟩⟩ : S_impl_Entry)
  | .impl_Node => (⟨0, 0, 0, 0, ⟨some true, 0, fun _ => (⟨0, 0, 0, ⟨0, 0, 0, 0, 0, 0⟩⟩)⟩, 0, 0, ⟨some true, 0, fun _ => 0⟩, ⟨some true, 0, fun _ => 0⟩, ⟨some true, 0, fun _ => 0⟩⟩ : S_impl_Node)
  | .impl_Mail => (⟨0, 0, 0, 0, 0, 0, 0, false, ⟨some true, 0, fun _ => (⟨0, 0, 0, ⟨0, 0, 0, 0, 0, 0⟩⟩)⟩⟩ : S_impl_Mail)
  | .impl_Seal => (⟨0, ⟨0, 0, 0, ⟨0, 0, 0, 0, 0, 0⟩⟩⟩ : S_impl_Seal)

def cellsR : (τ : RT) → den τ → List (D RT den)
  | .i64, (x : Int) => [(.int .i64 x)]
  | .laws_Entry, (x : S_laws_Entry) => [(.int .i64 x.Term), (.int .i64 x.Client), (.int .i64 x.Seq), (.int .i64 x.Cmd.Kind), (.int .i64 x.Cmd.Expect), (.int .i64 x.Cmd.Name), (.int .i64 x.Cmd.Addr), (.int .i64 x.Cmd.Number), (.int .i64 x.Cmd.Proto)]
  | .laws_Node, (x : S_laws_Node) => [(.int .i64 x.Id), (.int .i64 x.Peers), (.int .i64 x.Term), (.int .i64 x.Voted), (.rs x.Log.z .laws_Entry x.Log.n x.Log.f), (.int .i64 x.Role), (.int .i64 x.Commit), (.rs x.Votes.z .i64 x.Votes.n x.Votes.f), (.rs x.Next.z .i64 x.Next.n x.Next.f), (.rs x.Match.z .i64 x.Match.n x.Match.f)]
  | .laws_Mail, (x : S_laws_Mail) => [(.int .i64 x.Kind), (.int .i64 x.From), (.int .i64 x.To), (.int .i64 x.Term), (.int .i64 x.Index), (.int .i64 x.Last), (.int .i64 x.Commit), (.bool x.Ok), (.rs x.Entries.z .laws_Entry x.Entries.n x.Entries.f)]
  | .impl_Won, (x : S_impl_Won) => [(.int .i64 x.Term), (.int .i64 x.Node)]
  | .laws_Seal, (x : S_laws_Seal) => [(.int .i64 x.Term), (.int .i64 x.Entry.Term), (.int .i64 x.Entry.Client), (.int .i64 x.Entry.Seq), (.int .i64 x.Entry.Cmd.Kind), (.int .i64 x.Entry.Cmd.Expect), (.int .i64 x.Entry.Cmd.Name), (.int .i64 x.Entry.Cmd.Addr), (.int .i64 x.Entry.Cmd.Number), (.int .i64 x.Entry.Cmd.Proto)]
  | .impl_Entry, (x : S_impl_Entry) => [(.int .i64 x.Term), (.int .i64 x.Client), (.int .i64 x.Seq), (.int .i64 x.Cmd.Kind), (.int .i64 x.Cmd.Expect), (.int .i64 x.Cmd.Name), (.int .i64 x.Cmd.Addr), (.int .i64 x.Cmd.Number), (.int .i64 x.Cmd.Proto)]
  | .impl_Node, (x : S_impl_Node) => [(.int .i64 x.Id), (.int .i64 x.Peers), (.int .i64 x.Term), (.int .i64 x.Voted), (.rs x.Log.z .impl_Entry x.Log.n x.Log.f), (.int .i64 x.Role), (.int .i64 x.Commit), (.rs x.Votes.z .i64 x.Votes.n x.Votes.f), (.rs x.Next.z .i64 x.Next.n x.Next.f), (.rs x.Match.z .i64 x.Match.n x.Match.f)]
  | .impl_Mail, (x : S_impl_Mail) => [(.int .i64 x.Kind), (.int .i64 x.From), (.int .i64 x.To), (.int .i64 x.Term), (.int .i64 x.Index), (.int .i64 x.Last), (.int .i64 x.Commit), (.bool x.Ok), (.rs x.Entries.z .impl_Entry x.Entries.n x.Entries.f)]
  | .impl_Seal, (x : S_impl_Seal) => [(.int .i64 x.Term), (.int .i64 x.Entry.Term), (.int .i64 x.Entry.Client), (.int .i64 x.Entry.Seq), (.int .i64 x.Entry.Cmd.Kind), (.int .i64 x.Entry.Cmd.Expect), (.int .i64 x.Entry.Cmd.Name), (.int .i64 x.Entry.Cmd.Addr), (.int .i64 x.Entry.Cmd.Number), (.int .i64 x.Entry.Cmd.Proto)]

def dec_i64 (cs : List (D RT den)) : Option Int := match cs with | [.int .i64 a0_0] => some a0_0 | _ => none
theorem dec_i64_cells (cs : List (D RT den)) (x : Int) (h : dec_i64 cs = some x) : cellsR .i64 x = cs := by
  unfold dec_i64 at h
  split at h
  · cases h; rfl
  · cases h
def dec_laws_Entry (cs : List (D RT den)) : Option S_laws_Entry := match cs with | [.int .i64 a0_1, .int .i64 a0_2, .int .i64 a0_3, .int .i64 a0_5, .int .i64 a0_6, .int .i64 a0_7, .int .i64 a0_8, .int .i64 a0_9, .int .i64 a0_10] => some (⟨a0_1, a0_2, a0_3, (⟨a0_5, a0_6, a0_7, a0_8, a0_9, a0_10⟩ : S_impl_Cmd)⟩ : S_laws_Entry) | _ => none
theorem dec_laws_Entry_cells (cs : List (D RT den)) (x : S_laws_Entry) (h : dec_laws_Entry cs = some x) : cellsR .laws_Entry x = cs := by
  unfold dec_laws_Entry at h
  split at h
  · cases h; rfl
  · cases h
def dec_laws_Node (cs : List (D RT den)) : Option S_laws_Node := match cs with | [.int .i64 a0_1, .int .i64 a0_2, .int .i64 a0_3, .int .i64 a0_4, .rs za0_5 .laws_Entry na0_5 fa0_5, .int .i64 a0_6, .int .i64 a0_7, .rs za0_8 .i64 na0_8 fa0_8, .rs za0_9 .i64 na0_9 fa0_9, .rs za0_10 .i64 na0_10 fa0_10] => some (⟨a0_1, a0_2, a0_3, a0_4, (⟨za0_5, na0_5, fa0_5⟩ : (Sl S_laws_Entry)), a0_6, a0_7, (⟨za0_8, na0_8, fa0_8⟩ : (Sl Int)), (⟨za0_9, na0_9, fa0_9⟩ : (Sl Int)), (⟨za0_10, na0_10, fa0_10⟩ : (Sl Int))⟩ : S_laws_Node) | _ => none
theorem dec_laws_Node_cells (cs : List (D RT den)) (x : S_laws_Node) (h : dec_laws_Node cs = some x) : cellsR .laws_Node x = cs := by
  unfold dec_laws_Node at h
  split at h
  · cases h; rfl
  · cases h
def dec_laws_Mail (cs : List (D RT den)) : Option S_laws_Mail := match cs with | [.int .i64 a0_1, .int .i64 a0_2, .int .i64 a0_3, .int .i64 a0_4, .int .i64 a0_5, .int .i64 a0_6, .int .i64 a0_7, .bool a0_8, .rs za0_9 .laws_Entry na0_9 fa0_9] => some (⟨a0_1, a0_2, a0_3, a0_4, a0_5, a0_6, a0_7, a0_8, (⟨za0_9, na0_9, fa0_9⟩ : (Sl S_laws_Entry))⟩ : S_laws_Mail) | _ => none
theorem dec_laws_Mail_cells (cs : List (D RT den)) (x : S_laws_Mail) (h : dec_laws_Mail cs = some x) : cellsR .laws_Mail x = cs := by
  unfold dec_laws_Mail at h
  split at h
  · cases h; rfl
  · cases h
def dec_impl_Won (cs : List (D RT den)) : Option S_impl_Won := match cs with | [.int .i64 a0_1, .int .i64 a0_2] => some (⟨a0_1, a0_2⟩ : S_impl_Won) | _ => none
theorem dec_impl_Won_cells (cs : List (D RT den)) (x : S_impl_Won) (h : dec_impl_Won cs = some x) : cellsR .impl_Won x = cs := by
  unfold dec_impl_Won at h
  split at h
  · cases h; rfl
  · cases h
def dec_laws_Seal (cs : List (D RT den)) : Option S_laws_Seal := match cs with | [.int .i64 a0_1, .int .i64 a0_3, .int .i64 a0_4, .int .i64 a0_5, .int .i64 a0_7, .int .i64 a0_8, .int .i64 a0_9, .int .i64 a0_10, .int .i64 a0_11, .int .i64 a0_12] => some (⟨a0_1, (⟨a0_3, a0_4, a0_5, (⟨a0_7, a0_8, a0_9, a0_10, a0_11, a0_12⟩ : S_impl_Cmd)⟩ : S_laws_Entry)⟩ : S_laws_Seal) | _ => none
theorem dec_laws_Seal_cells (cs : List (D RT den)) (x : S_laws_Seal) (h : dec_laws_Seal cs = some x) : cellsR .laws_Seal x = cs := by
  unfold dec_laws_Seal at h
  split at h
  · cases h; rfl
  · cases h
def dec_impl_Entry (cs : List (D RT den)) : Option S_impl_Entry := match cs with | [.int .i64 a0_1, .int .i64 a0_2, .int .i64 a0_3, .int .i64 a0_5, .int .i64 a0_6, .int .i64 a0_7, .int .i64 a0_8, .int .i64 a0_9, .int .i64 a0_10] => some (⟨a0_1, a0_2, a0_3, (⟨a0_5, a0_6, a0_7, a0_8, a0_9, a0_10⟩ : S_impl_Cmd)⟩ : S_impl_Entry) | _ => none
theorem dec_impl_Entry_cells (cs : List (D RT den)) (x : S_impl_Entry) (h : dec_impl_Entry cs = some x) : cellsR .impl_Entry x = cs := by
  unfold dec_impl_Entry at h
  split at h
  · cases h; rfl
  · cases h
def dec_impl_Node (cs : List (D RT den)) : Option S_impl_Node := match cs with | [.int .i64 a0_1, .int .i64 a0_2, .int .i64 a0_3, .int .i64 a0_4, .rs za0_5 .impl_Entry na0_5 fa0_5, .int .i64 a0_6, .int .i64 a0_7, .rs za0_8 .i64 na0_8 fa0_8, .rs za0_9 .i64 na0_9 fa0_9, .rs za0_10 .i64 na0_10 fa0_10] => some (⟨a0_1, a0_2, a0_3, a0_4, (⟨za0_5, na0_5, fa0_5⟩ : (Sl S_impl_Entry)), a0_6, a0_7, (⟨za0_8, na0_8, fa0_8⟩ : (Sl Int)), (⟨za0_9, na0_9, fa0_9⟩ : (Sl Int)), (⟨za0_10, na0_10, fa0_10⟩ : (Sl Int))⟩ : S_impl_Node) | _ => none
theorem dec_impl_Node_cells (cs : List (D RT den)) (x : S_impl_Node) (h : dec_impl_Node cs = some x) : cellsR .impl_Node x = cs := by
  unfold dec_impl_Node at h
  split at h
  · cases h; rfl
  · cases h
def dec_impl_Mail (cs : List (D RT den)) : Option S_impl_Mail := match cs with | [.int .i64 a0_1, .int .i64 a0_2, .int .i64 a0_3, .int .i64 a0_4, .int .i64 a0_5, .int .i64 a0_6, .int .i64 a0_7, .bool a0_8, .rs za0_9 .impl_Entry na0_9 fa0_9] => some (⟨a0_1, a0_2, a0_3, a0_4, a0_5, a0_6, a0_7, a0_8, (⟨za0_9, na0_9, fa0_9⟩ : (Sl S_impl_Entry))⟩ : S_impl_Mail) | _ => none
theorem dec_impl_Mail_cells (cs : List (D RT den)) (x : S_impl_Mail) (h : dec_impl_Mail cs = some x) : cellsR .impl_Mail x = cs := by
  unfold dec_impl_Mail at h
  split at h
  · cases h; rfl
  · cases h
def dec_impl_Seal (cs : List (D RT den)) : Option S_impl_Seal := match cs with | [.int .i64 a0_1, .int .i64 a0_3, .int .i64 a0_4, .int .i64 a0_5, .int .i64 a0_7, .int .i64 a0_8, .int .i64 a0_9, .int .i64 a0_10, .int .i64 a0_11, .int .i64 a0_12] => some (⟨a0_1, (⟨a0_3, a0_4, a0_5, (⟨a0_7, a0_8, a0_9, a0_10, a0_11, a0_12⟩ : S_impl_Cmd)⟩ : S_impl_Entry)⟩ : S_impl_Seal) | _ => none
theorem dec_impl_Seal_cells (cs : List (D RT den)) (x : S_impl_Seal) (h : dec_impl_Seal cs = some x) : cellsR .impl_Seal x = cs := by
  unfold dec_impl_Seal at h
  split at h
  · cases h; rfl
  · cases h
def decR : (τ : RT) → List (D RT den) → Option (den τ)
  | .i64, cs => dec_i64 cs
  | .laws_Entry, cs => dec_laws_Entry cs
  | .laws_Node, cs => dec_laws_Node cs
  | .laws_Mail, cs => dec_laws_Mail cs
  | .impl_Won, cs => dec_impl_Won cs
  | .laws_Seal, cs => dec_laws_Seal cs
  | .impl_Entry, cs => dec_impl_Entry cs
  | .impl_Node, cs => dec_impl_Node cs
  | .impl_Mail, cs => dec_impl_Mail cs
  | .impl_Seal, cs => dec_impl_Seal cs

def sizeR : RT → Nat
  | .i64 => 1
  | .laws_Entry => 9
  | .laws_Node => 10
  | .laws_Mail => 9
  | .impl_Won => 2
  | .laws_Seal => 10
  | .impl_Entry => 9
  | .impl_Node => 10
  | .impl_Mail => 9
  | .impl_Seal => 10

def sclR : RT → Bool
  | .i64 => true
  | .laws_Entry => true
  | .laws_Node => false
  | .laws_Mail => false
  | .impl_Won => true
  | .laws_Seal => true
  | .impl_Entry => true
  | .impl_Node => false
  | .impl_Mail => false
  | .impl_Seal => true

def nilR : RT → Bool
  | .i64 => false
  | .laws_Entry => false
  | .laws_Node => false
  | .laws_Mail => false
  | .impl_Won => false
  | .laws_Seal => false
  | .impl_Entry => false
  | .impl_Node => false
  | .impl_Mail => false
  | .impl_Seal => false

def rtl : List (Nat × RT) := [(2, .i64), (160, .laws_Node), (163, .laws_Mail), (167, .impl_Node), (170, .impl_Mail), (173, .impl_Won), (175, .impl_Entry), (177, .impl_Seal), (182, .impl_Won), (186, .laws_Entry), (188, .laws_Seal)]
def zs : List (Nat × List (D RT den)) := [(2, [(.int .i64 0)]), (31, [(.int .i64 0), (.emp true .impl_Entry)]), (38, [(.emp true .impl_Node), (.emp true .impl_Mail), (.emp true .impl_Won), (.emp true .impl_Seal)]), (116, [(.int .i64 0), (.int .i64 0), (.int .i64 0), (.int .i64 0), (.int .i64 0), (.int .i64 0)]), (167, [(.int .i64 0), (.int .i64 0), (.int .i64 0), (.int .i64 0), (.emp true .impl_Entry), (.int .i64 0), (.int .i64 0), (.emp true .i64), (.emp true .i64), (.emp true .i64)]), (170, [(.int .i64 0), (.int .i64 0), (.int .i64 0), (.int .i64 0), (.int .i64 0), (.int .i64 0), (.int .i64 0), (.bool false), (.emp true .impl_Entry)]), (173, [(.int .i64 0), (.int .i64 0)]), (175, [(.int .i64 0), (.int .i64 0), (.int .i64 0), (.int .i64 0), (.int .i64 0), (.int .i64 0), (.int .i64 0), (.int .i64 0), (.int .i64 0)]), (177, [(.int .i64 0), (.int .i64 0), (.int .i64 0), (.int .i64 0), (.int .i64 0), (.int .i64 0), (.int .i64 0), (.int .i64 0), (.int .i64 0), (.int .i64 0)])]
def tbl : List (Nat × TI) := [(2, ⟨1, 8, false, none, [], false, none, false, none⟩),
  (4, ⟨1, 1, false, none, [], false, none, true, none⟩),
  (22, ⟨1, 24, false, some 160, [], false, none, false, none⟩),
  (23, ⟨1, 24, false, some 163, [], false, none, false, none⟩),
  (24, ⟨1, 24, false, some 182, [], false, none, false, none⟩),
  (25, ⟨1, 24, false, some 188, [], false, none, false, none⟩),
  (27, ⟨4, 96, true, none, [(0, 22), (1, 23), (2, 24), (3, 25)], false, none, false, none⟩),
  (29, ⟨1, 24, false, some 175, [], false, none, false, none⟩),
  (31, ⟨2, 32, true, none, [(0, 2), (1, 29)], true, none, false, none⟩),
  (33, ⟨1, 24, false, some 167, [], false, none, false, none⟩),
  (34, ⟨1, 24, false, some 170, [], false, none, false, none⟩),
  (35, ⟨1, 24, false, some 173, [], false, none, false, none⟩),
  (36, ⟨1, 24, false, some 177, [], false, none, false, none⟩),
  (38, ⟨4, 96, true, none, [(0, 33), (1, 34), (2, 35), (3, 36)], false, none, false, none⟩),
  (116, ⟨6, 48, true, none, [(0, 2), (1, 2), (2, 2), (3, 2), (4, 2), (5, 2)], true, (some [true, true, true, true, true, true]), false, none⟩),
  (144, ⟨1, 24, false, some 2, [], false, none, false, none⟩),
  (158, ⟨1, 24, false, some 186, [], false, none, false, none⟩),
  (160, ⟨10, 144, true, none, [(0, 2), (1, 2), (2, 2), (3, 2), (4, 158), (5, 2), (6, 2), (7, 144), (8, 144), (9, 144)], false, none, false, none⟩),
  (163, ⟨9, 88, true, none, [(0, 2), (1, 2), (2, 2), (3, 2), (4, 2), (5, 2), (6, 2), (7, 4), (8, 158)], false, none, false, none⟩),
  (167, ⟨10, 144, true, none, [(0, 2), (1, 2), (2, 2), (3, 2), (4, 29), (5, 2), (6, 2), (7, 144), (8, 144), (9, 144)], false, none, false, none⟩),
  (170, ⟨9, 88, true, none, [(0, 2), (1, 2), (2, 2), (3, 2), (4, 2), (5, 2), (6, 2), (7, 4), (8, 29)], false, none, false, none⟩),
  (173, ⟨2, 16, true, none, [(0, 2), (1, 2)], false, none, false, none⟩),
  (175, ⟨9, 72, true, none, [(0, 2), (1, 2), (2, 2), (3, 116)], true, none, false, none⟩),
  (177, ⟨10, 80, true, none, [(0, 2), (1, 175)], false, none, false, none⟩),
  (182, ⟨2, 16, true, none, [(0, 2), (1, 2)], false, none, false, none⟩),
  (184, ⟨6, 48, true, none, [(0, 2), (1, 2), (2, 2), (3, 2), (4, 2), (5, 2)], false, none, false, none⟩),
  (186, ⟨9, 72, true, none, [(0, 2), (1, 2), (2, 2), (3, 184)], false, none, false, none⟩),
  (188, ⟨10, 80, true, none, [(0, 2), (1, 186)], false, none, false, none⟩)]
noncomputable def fnT (f : Nat) : Option Func := match f with
  | 3 => some Try.f3
  | 7 => some Try.f7
  | 8 => some Try.f8
  | 9 => some Try.f9
  | 10 => some Try.f10
  | 11 => some Try.f11
  | 12 => some Try.f12
  | 13 => some Try.f13
  | 14 => some Try.f14
  | 15 => some Try.f15
  | 38 => some Try.f38
  | 39 => some Try.f39
  | 40 => some Try.f40
  | 41 => some Try.f41
  | 42 => some Try.f42
  | 43 => some Try.f43
  | 44 => some Try.f44
  | 45 => some Try.f45
  | 46 => some Try.f46
  | 47 => some Try.f47
  | 48 => some Try.f48
  | 49 => some Try.f49
  | 50 => some Try.f50
  | 51 => some Try.f51
  | 52 => some Try.f52
  | 53 => some Try.f53
  | 54 => some Try.f54
  | 55 => some Try.f55
  | 56 => some Try.f56
  | 57 => some Try.f57
  | 58 => some Try.f58
  | 59 => some Try.f59
  | 60 => some Try.f60
  | 65 => some Try.f65
  | 72 => some Try.f72
  | 93 => some Try.f93
  | 96 => some Try.f96
  | 102 => some Try.f102
  | 103 => some Try.f103
  | 104 => some Try.f104
  | 105 => some Try.f105
  | 106 => some Try.f106
  | 107 => some Try.f107
  | 108 => some Try.f108
  | 109 => some Try.f109
  | 110 => some Try.f110
  | 111 => some Try.f111
  | 112 => some Try.f112
  | 113 => some Try.f113
  | 114 => some Try.f114
  | 115 => some Try.f115
  | 116 => some Try.f116
  | 117 => some Try.f117
  | 118 => some Try.f118
  | 119 => some Try.f119
  | 120 => some Try.f120
  | 121 => some Try.f121
  | 122 => some Try.f122
  | 124 => some Try.f124
  | 127 => some Try.f127
  | 132 => some Try.f132
  | 133 => some Try.f133
  | 136 => some Try.f136
  | 137 => some Try.f137
  | 144 => some Try.f144
  | 151 => some Try.f151
  | 156 => some Try.f156
  | 157 => some Try.f157
  | 158 => some Try.f158
  | 159 => some Try.f159
  | 160 => some Try.f160
  | 161 => some Try.f161
  | 162 => some Try.f162
  | 163 => some Try.f163
  | 164 => some Try.f164
  | 165 => some Try.f165
  | 166 => some Try.f166
  | 167 => some Try.f167
  | 168 => some Try.f168
  | 169 => some Try.f169
  | 170 => some Try.f170
  | 171 => some Try.f171
  | 172 => some Try.f172
  | 173 => some Try.f173
  | 174 => some Try.f174
  | 175 => some Try.f175
  | 176 => some Try.f176
  | 177 => some Try.f177
  | 193 => some Try.f193
  | 194 => some Try.f194
  | 195 => some Try.f195
  | 196 => some Try.f196
  | 197 => some Try.f197
  | 198 => some Try.f198
  | _ => none
def parT (f : Nat) : List Nat := []
def R : Vm.Rows RT den := ⟨fun t => rtl.lookup t, sizeR, cellsR, decR, (fun a b => decEq a b), dflt, fun t => zs.lookup t, sclR, nilR⟩
noncomputable def E : Env RT den := envOf Try.prog tbl R zs fnT parT
theorem rows_ok : RowsOk R tbl where
  size := by intro τ x; cases τ <;> rfl
  dec := by
    intro τ cs x h
    cases τ
    · exact dec_i64_cells cs x h
    · exact dec_laws_Entry_cells cs x h
    · exact dec_laws_Node_cells cs x h
    · exact dec_laws_Mail_cells cs x h
    · exact dec_impl_Won_cells cs x h
    · exact dec_laws_Seal_cells cs x h
    · exact dec_impl_Entry_cells cs x h
    · exact dec_impl_Node_cells cs x h
    · exact dec_impl_Mail_cells cs x h
    · exact dec_impl_Seal_cells cs x h
  pure := by intro τ x; cases τ <;> rfl
  scl := by intro τ h x; cases τ <;> first | rfl | cases h
  rt := rt_of (by kernel_rfl)
theorem fn_ok : ∀ f g, fnT f = some g → Try.prog.funcs[f]? = some g := by
  intro f g h
  unfold fnT at h
  split at h <;> first | (cases h; kernel_rfl) | cases h
theorem E_ok : Ok E Try.prog := envOf_ok (by kernel_rfl) (by kernel_rfl) (by kernel_rfl) fn_ok rows_ok (by kernel_rfl)
def pcf0 : Nat → List (D RT den) → Option (Out RT den) := fun _ _ => none
def pcd0 : Nat → Bool := fun _ => false
def pcx0 : Nat → List (D RT den) → List (Ob RT den) → Option (OutX RT den) := fun _ _ _ => none
theorem hpc0 : ∀ f xs o, pcf0 f xs = some o → ∀ y, o.x = some y → Good E Try.prog f xs (o.g y) := by
  intro f xs o h
  cases h
theorem hpx0 : ∀ f xs ins o, pcx0 f xs ins = some o → ∀ y, o.x = some y → GoodXD E Try.prog (pcd0 f) f xs ins (o.g y).1 (o.g y).2 := by
  intro f xs ins o h
  cases h
def upd_impl_Entry_0_1 (f : Nat → S_impl_Entry) (j : Nat) (v0 : Int) : Nat → S_impl_Entry := fun i => if i = j then (⟨v0, (f j).Client, (f j).Seq, (f j).Cmd⟩ : S_impl_Entry) else f i
def upd_impl_Entry_1_1 (f : Nat → S_impl_Entry) (j : Nat) (v0 : Int) : Nat → S_impl_Entry := fun i => if i = j then (⟨(f j).Term, v0, (f j).Seq, (f j).Cmd⟩ : S_impl_Entry) else f i
def upd_impl_Entry_2_1 (f : Nat → S_impl_Entry) (j : Nat) (v0 : Int) : Nat → S_impl_Entry := fun i => if i = j then (⟨(f j).Term, (f j).Client, v0, (f j).Cmd⟩ : S_impl_Entry) else f i
def upd_impl_Entry_3_1 (f : Nat → S_impl_Entry) (j : Nat) (v0 : Int) : Nat → S_impl_Entry := fun i => if i = j then (⟨(f j).Term, (f j).Client, (f j).Seq, (⟨v0, (f j).Cmd.Expect, (f j).Cmd.Name, (f j).Cmd.Addr, (f j).Cmd.Number, (f j).Cmd.Proto⟩ : S_impl_Cmd)⟩ : S_impl_Entry) else f i
def upd_impl_Entry_4_1 (f : Nat → S_impl_Entry) (j : Nat) (v0 : Int) : Nat → S_impl_Entry := fun i => if i = j then (⟨(f j).Term, (f j).Client, (f j).Seq, (⟨(f j).Cmd.Kind, v0, (f j).Cmd.Name, (f j).Cmd.Addr, (f j).Cmd.Number, (f j).Cmd.Proto⟩ : S_impl_Cmd)⟩ : S_impl_Entry) else f i
def upd_impl_Entry_5_1 (f : Nat → S_impl_Entry) (j : Nat) (v0 : Int) : Nat → S_impl_Entry := fun i => if i = j then (⟨(f j).Term, (f j).Client, (f j).Seq, (⟨(f j).Cmd.Kind, (f j).Cmd.Expect, v0, (f j).Cmd.Addr, (f j).Cmd.Number, (f j).Cmd.Proto⟩ : S_impl_Cmd)⟩ : S_impl_Entry) else f i
def upd_impl_Entry_6_1 (f : Nat → S_impl_Entry) (j : Nat) (v0 : Int) : Nat → S_impl_Entry := fun i => if i = j then (⟨(f j).Term, (f j).Client, (f j).Seq, (⟨(f j).Cmd.Kind, (f j).Cmd.Expect, (f j).Cmd.Name, v0, (f j).Cmd.Number, (f j).Cmd.Proto⟩ : S_impl_Cmd)⟩ : S_impl_Entry) else f i
def upd_impl_Entry_7_1 (f : Nat → S_impl_Entry) (j : Nat) (v0 : Int) : Nat → S_impl_Entry := fun i => if i = j then (⟨(f j).Term, (f j).Client, (f j).Seq, (⟨(f j).Cmd.Kind, (f j).Cmd.Expect, (f j).Cmd.Name, (f j).Cmd.Addr, v0, (f j).Cmd.Proto⟩ : S_impl_Cmd)⟩ : S_impl_Entry) else f i
def upd_impl_Entry_8_1 (f : Nat → S_impl_Entry) (j : Nat) (v0 : Int) : Nat → S_impl_Entry := fun i => if i = j then (⟨(f j).Term, (f j).Client, (f j).Seq, (⟨(f j).Cmd.Kind, (f j).Cmd.Expect, (f j).Cmd.Name, (f j).Cmd.Addr, (f j).Cmd.Number, v0⟩ : S_impl_Cmd)⟩ : S_impl_Entry) else f i
def upd_impl_Mail_0_1 (f : Nat → S_impl_Mail) (j : Nat) (v0 : Int) : Nat → S_impl_Mail := fun i => if i = j then (⟨v0, (f j).From, (f j).To, (f j).Term, (f j).Index, (f j).Last, (f j).Commit, (f j).Ok, (f j).Entries⟩ : S_impl_Mail) else f i
def upd_impl_Mail_1_1 (f : Nat → S_impl_Mail) (j : Nat) (v0 : Int) : Nat → S_impl_Mail := fun i => if i = j then (⟨(f j).Kind, v0, (f j).To, (f j).Term, (f j).Index, (f j).Last, (f j).Commit, (f j).Ok, (f j).Entries⟩ : S_impl_Mail) else f i
def upd_impl_Mail_2_1 (f : Nat → S_impl_Mail) (j : Nat) (v0 : Int) : Nat → S_impl_Mail := fun i => if i = j then (⟨(f j).Kind, (f j).From, v0, (f j).Term, (f j).Index, (f j).Last, (f j).Commit, (f j).Ok, (f j).Entries⟩ : S_impl_Mail) else f i
def upd_impl_Mail_3_1 (f : Nat → S_impl_Mail) (j : Nat) (v0 : Int) : Nat → S_impl_Mail := fun i => if i = j then (⟨(f j).Kind, (f j).From, (f j).To, v0, (f j).Index, (f j).Last, (f j).Commit, (f j).Ok, (f j).Entries⟩ : S_impl_Mail) else f i
def upd_impl_Mail_4_1 (f : Nat → S_impl_Mail) (j : Nat) (v0 : Int) : Nat → S_impl_Mail := fun i => if i = j then (⟨(f j).Kind, (f j).From, (f j).To, (f j).Term, v0, (f j).Last, (f j).Commit, (f j).Ok, (f j).Entries⟩ : S_impl_Mail) else f i
def upd_impl_Mail_5_1 (f : Nat → S_impl_Mail) (j : Nat) (v0 : Int) : Nat → S_impl_Mail := fun i => if i = j then (⟨(f j).Kind, (f j).From, (f j).To, (f j).Term, (f j).Index, v0, (f j).Commit, (f j).Ok, (f j).Entries⟩ : S_impl_Mail) else f i
def upd_impl_Mail_6_1 (f : Nat → S_impl_Mail) (j : Nat) (v0 : Int) : Nat → S_impl_Mail := fun i => if i = j then (⟨(f j).Kind, (f j).From, (f j).To, (f j).Term, (f j).Index, (f j).Last, v0, (f j).Ok, (f j).Entries⟩ : S_impl_Mail) else f i
def upd_impl_Mail_7_1 (f : Nat → S_impl_Mail) (j : Nat) (v0 : Bool) : Nat → S_impl_Mail := fun i => if i = j then (⟨(f j).Kind, (f j).From, (f j).To, (f j).Term, (f j).Index, (f j).Last, (f j).Commit, v0, (f j).Entries⟩ : S_impl_Mail) else f i
def upd_impl_Mail_8_1 (f : Nat → S_impl_Mail) (j : Nat) (v0 : (Sl S_impl_Entry)) : Nat → S_impl_Mail := fun i => if i = j then (⟨(f j).Kind, (f j).From, (f j).To, (f j).Term, (f j).Index, (f j).Last, (f j).Commit, (f j).Ok, v0⟩ : S_impl_Mail) else f i
def upd_impl_Node_0_1 (f : Nat → S_impl_Node) (j : Nat) (v0 : Int) : Nat → S_impl_Node := fun i => if i = j then (⟨v0, (f j).Peers, (f j).Term, (f j).Voted, (f j).Log, (f j).Role, (f j).Commit, (f j).Votes, (f j).Next, (f j).Match⟩ : S_impl_Node) else f i
def upd_impl_Node_1_1 (f : Nat → S_impl_Node) (j : Nat) (v0 : Int) : Nat → S_impl_Node := fun i => if i = j then (⟨(f j).Id, v0, (f j).Term, (f j).Voted, (f j).Log, (f j).Role, (f j).Commit, (f j).Votes, (f j).Next, (f j).Match⟩ : S_impl_Node) else f i
def upd_impl_Node_2_1 (f : Nat → S_impl_Node) (j : Nat) (v0 : Int) : Nat → S_impl_Node := fun i => if i = j then (⟨(f j).Id, (f j).Peers, v0, (f j).Voted, (f j).Log, (f j).Role, (f j).Commit, (f j).Votes, (f j).Next, (f j).Match⟩ : S_impl_Node) else f i
def upd_impl_Node_3_1 (f : Nat → S_impl_Node) (j : Nat) (v0 : Int) : Nat → S_impl_Node := fun i => if i = j then (⟨(f j).Id, (f j).Peers, (f j).Term, v0, (f j).Log, (f j).Role, (f j).Commit, (f j).Votes, (f j).Next, (f j).Match⟩ : S_impl_Node) else f i
def upd_impl_Node_4_1 (f : Nat → S_impl_Node) (j : Nat) (v0 : (Sl S_impl_Entry)) : Nat → S_impl_Node := fun i => if i = j then (⟨(f j).Id, (f j).Peers, (f j).Term, (f j).Voted, v0, (f j).Role, (f j).Commit, (f j).Votes, (f j).Next, (f j).Match⟩ : S_impl_Node) else f i
def upd_impl_Node_5_1 (f : Nat → S_impl_Node) (j : Nat) (v0 : Int) : Nat → S_impl_Node := fun i => if i = j then (⟨(f j).Id, (f j).Peers, (f j).Term, (f j).Voted, (f j).Log, v0, (f j).Commit, (f j).Votes, (f j).Next, (f j).Match⟩ : S_impl_Node) else f i
def upd_impl_Node_6_1 (f : Nat → S_impl_Node) (j : Nat) (v0 : Int) : Nat → S_impl_Node := fun i => if i = j then (⟨(f j).Id, (f j).Peers, (f j).Term, (f j).Voted, (f j).Log, (f j).Role, v0, (f j).Votes, (f j).Next, (f j).Match⟩ : S_impl_Node) else f i
def upd_impl_Node_7_1 (f : Nat → S_impl_Node) (j : Nat) (v0 : (Sl Int)) : Nat → S_impl_Node := fun i => if i = j then (⟨(f j).Id, (f j).Peers, (f j).Term, (f j).Voted, (f j).Log, (f j).Role, (f j).Commit, v0, (f j).Next, (f j).Match⟩ : S_impl_Node) else f i
def upd_impl_Node_8_1 (f : Nat → S_impl_Node) (j : Nat) (v0 : (Sl Int)) : Nat → S_impl_Node := fun i => if i = j then (⟨(f j).Id, (f j).Peers, (f j).Term, (f j).Voted, (f j).Log, (f j).Role, (f j).Commit, (f j).Votes, v0, (f j).Match⟩ : S_impl_Node) else f i
def upd_impl_Node_9_1 (f : Nat → S_impl_Node) (j : Nat) (v0 : (Sl Int)) : Nat → S_impl_Node := fun i => if i = j then (⟨(f j).Id, (f j).Peers, (f j).Term, (f j).Voted, (f j).Log, (f j).Role, (f j).Commit, (f j).Votes, (f j).Next, v0⟩ : S_impl_Node) else f i
def upd_impl_Seal_0_1 (f : Nat → S_impl_Seal) (j : Nat) (v0 : Int) : Nat → S_impl_Seal := fun i => if i = j then (⟨v0, (f j).Entry⟩ : S_impl_Seal) else f i
def upd_impl_Seal_1_1 (f : Nat → S_impl_Seal) (j : Nat) (v0 : Int) : Nat → S_impl_Seal := fun i => if i = j then (⟨(f j).Term, (⟨v0, (f j).Entry.Client, (f j).Entry.Seq, (f j).Entry.Cmd⟩ : S_impl_Entry)⟩ : S_impl_Seal) else f i
def upd_impl_Seal_2_1 (f : Nat → S_impl_Seal) (j : Nat) (v0 : Int) : Nat → S_impl_Seal := fun i => if i = j then (⟨(f j).Term, (⟨(f j).Entry.Term, v0, (f j).Entry.Seq, (f j).Entry.Cmd⟩ : S_impl_Entry)⟩ : S_impl_Seal) else f i
def upd_impl_Seal_3_1 (f : Nat → S_impl_Seal) (j : Nat) (v0 : Int) : Nat → S_impl_Seal := fun i => if i = j then (⟨(f j).Term, (⟨(f j).Entry.Term, (f j).Entry.Client, v0, (f j).Entry.Cmd⟩ : S_impl_Entry)⟩ : S_impl_Seal) else f i
def upd_impl_Seal_4_1 (f : Nat → S_impl_Seal) (j : Nat) (v0 : Int) : Nat → S_impl_Seal := fun i => if i = j then (⟨(f j).Term, (⟨(f j).Entry.Term, (f j).Entry.Client, (f j).Entry.Seq, (⟨v0, (f j).Entry.Cmd.Expect, (f j).Entry.Cmd.Name, (f j).Entry.Cmd.Addr, (f j).Entry.Cmd.Number, (f j).Entry.Cmd.Proto⟩ : S_impl_Cmd)⟩ : S_impl_Entry)⟩ : S_impl_Seal) else f i
def upd_impl_Seal_5_1 (f : Nat → S_impl_Seal) (j : Nat) (v0 : Int) : Nat → S_impl_Seal := fun i => if i = j then (⟨(f j).Term, (⟨(f j).Entry.Term, (f j).Entry.Client, (f j).Entry.Seq, (⟨(f j).Entry.Cmd.Kind, v0, (f j).Entry.Cmd.Name, (f j).Entry.Cmd.Addr, (f j).Entry.Cmd.Number, (f j).Entry.Cmd.Proto⟩ : S_impl_Cmd)⟩ : S_impl_Entry)⟩ : S_impl_Seal) else f i
def upd_impl_Seal_6_1 (f : Nat → S_impl_Seal) (j : Nat) (v0 : Int) : Nat → S_impl_Seal := fun i => if i = j then (⟨(f j).Term, (⟨(f j).Entry.Term, (f j).Entry.Client, (f j).Entry.Seq, (⟨(f j).Entry.Cmd.Kind, (f j).Entry.Cmd.Expect, v0, (f j).Entry.Cmd.Addr, (f j).Entry.Cmd.Number, (f j).Entry.Cmd.Proto⟩ : S_impl_Cmd)⟩ : S_impl_Entry)⟩ : S_impl_Seal) else f i
def upd_impl_Seal_7_1 (f : Nat → S_impl_Seal) (j : Nat) (v0 : Int) : Nat → S_impl_Seal := fun i => if i = j then (⟨(f j).Term, (⟨(f j).Entry.Term, (f j).Entry.Client, (f j).Entry.Seq, (⟨(f j).Entry.Cmd.Kind, (f j).Entry.Cmd.Expect, (f j).Entry.Cmd.Name, v0, (f j).Entry.Cmd.Number, (f j).Entry.Cmd.Proto⟩ : S_impl_Cmd)⟩ : S_impl_Entry)⟩ : S_impl_Seal) else f i
def upd_impl_Seal_8_1 (f : Nat → S_impl_Seal) (j : Nat) (v0 : Int) : Nat → S_impl_Seal := fun i => if i = j then (⟨(f j).Term, (⟨(f j).Entry.Term, (f j).Entry.Client, (f j).Entry.Seq, (⟨(f j).Entry.Cmd.Kind, (f j).Entry.Cmd.Expect, (f j).Entry.Cmd.Name, (f j).Entry.Cmd.Addr, v0, (f j).Entry.Cmd.Proto⟩ : S_impl_Cmd)⟩ : S_impl_Entry)⟩ : S_impl_Seal) else f i
def upd_impl_Seal_9_1 (f : Nat → S_impl_Seal) (j : Nat) (v0 : Int) : Nat → S_impl_Seal := fun i => if i = j then (⟨(f j).Term, (⟨(f j).Entry.Term, (f j).Entry.Client, (f j).Entry.Seq, (⟨(f j).Entry.Cmd.Kind, (f j).Entry.Cmd.Expect, (f j).Entry.Cmd.Name, (f j).Entry.Cmd.Addr, (f j).Entry.Cmd.Number, v0⟩ : S_impl_Cmd)⟩ : S_impl_Entry)⟩ : S_impl_Seal) else f i
def upd_impl_Won_0_1 (f : Nat → S_impl_Won) (j : Nat) (v0 : Int) : Nat → S_impl_Won := fun i => if i = j then (⟨v0, (f j).Node⟩ : S_impl_Won) else f i
def upd_impl_Won_1_1 (f : Nat → S_impl_Won) (j : Nat) (v0 : Int) : Nat → S_impl_Won := fun i => if i = j then (⟨(f j).Term, v0⟩ : S_impl_Won) else f i
def enc_impl_Cmd (y : S_impl_Cmd) : D RT den := (.agg [(.int .i64 y.Kind), (.int .i64 y.Expect), (.int .i64 y.Name), (.int .i64 y.Addr), (.int .i64 y.Number), (.int .i64 y.Proto)])
def out_impl_Cmd (d : D RT den) : Option (S_impl_Cmd) := match d with | .agg [.int .i64 a0_1, .int .i64 a0_2, .int .i64 a0_3, .int .i64 a0_4, .int .i64 a0_5, .int .i64 a0_6] => some (⟨a0_1, a0_2, a0_3, a0_4, a0_5, a0_6⟩ : S_impl_Cmd) | _ => none
theorem out_impl_Cmd_enc (d : D RT den) (y : S_impl_Cmd) (h : out_impl_Cmd d = some y) : d = enc_impl_Cmd y := by
  unfold out_impl_Cmd at h
  split at h
  · cases h; rfl
  · cases h
def enc_impl_Entry (y : S_impl_Entry) : D RT den := (.agg [(.int .i64 y.Term), (.int .i64 y.Client), (.int .i64 y.Seq), (.int .i64 y.Cmd.Kind), (.int .i64 y.Cmd.Expect), (.int .i64 y.Cmd.Name), (.int .i64 y.Cmd.Addr), (.int .i64 y.Cmd.Number), (.int .i64 y.Cmd.Proto)])
def out_impl_Entry (d : D RT den) : Option (S_impl_Entry) := match d with | .agg [.int .i64 a0_1, .int .i64 a0_2, .int .i64 a0_3, .int .i64 a0_5, .int .i64 a0_6, .int .i64 a0_7, .int .i64 a0_8, .int .i64 a0_9, .int .i64 a0_10] => some (⟨a0_1, a0_2, a0_3, (⟨a0_5, a0_6, a0_7, a0_8, a0_9, a0_10⟩ : S_impl_Cmd)⟩ : S_impl_Entry) | _ => none
theorem out_impl_Entry_enc (d : D RT den) (y : S_impl_Entry) (h : out_impl_Entry d = some y) : d = enc_impl_Entry y := by
  unfold out_impl_Entry at h
  split at h
  · cases h; rfl
  · cases h
def enc_sl_impl_Entry_H (y : (Sl S_impl_Entry)) : D RT den × List (Ob RT den) := ((.os 0 y.n), [(.row false .impl_Entry y.n y.f)])
def out_sl_impl_Entry_H (d : D RT den) (os : List (Ob RT den)) : Option ((Sl S_impl_Entry)) := match d, os with | .rs za0_0 .impl_Entry na0_0 fa0_0, [] => some (⟨za0_0, na0_0, fa0_0⟩ : (Sl S_impl_Entry)) | _, _ => none
theorem out_sl_impl_Entry_H_enc (d : D RT den) (os : List (Ob RT den)) (y : (Sl S_impl_Entry)) (h : out_sl_impl_Entry_H d os = some y) : (unh 0 d).1 = (enc_sl_impl_Entry_H y).1 ∧ os ++ (unh 0 d).2 = (enc_sl_impl_Entry_H y).2 := by
  unfold out_sl_impl_Entry_H at h
  split at h
  · cases h; exact ⟨rfl, rfl⟩
  · cases h
def enc_sl_i64_H (y : (Sl Int)) : D RT den × List (Ob RT den) := ((.os 0 y.n), [(.row false .i64 y.n y.f)])
def out_sl_i64_H (d : D RT den) (os : List (Ob RT den)) : Option ((Sl Int)) := match d, os with | .rs za0_0 .i64 na0_0 fa0_0, [] => some (⟨za0_0, na0_0, fa0_0⟩ : (Sl Int)) | _, _ => none
theorem out_sl_i64_H_enc (d : D RT den) (os : List (Ob RT den)) (y : (Sl Int)) (h : out_sl_i64_H d os = some y) : (unh 0 d).1 = (enc_sl_i64_H y).1 ∧ os ++ (unh 0 d).2 = (enc_sl_i64_H y).2 := by
  unfold out_sl_i64_H at h
  split at h
  · cases h; exact ⟨rfl, rfl⟩
  · cases h
def enc_impl_Node_H (y : S_impl_Node) : D RT den × List (Ob RT den) := ((.agg [(.int .i64 y.Id), (.int .i64 y.Peers), (.int .i64 y.Term), (.int .i64 y.Voted), (.os 0 y.Log.n), (.int .i64 y.Role), (.int .i64 y.Commit), (.os 1 y.Votes.n), (.os 2 y.Next.n), (.os 3 y.Match.n)]), [(.row false .impl_Entry y.Log.n y.Log.f), (.row false .i64 y.Votes.n y.Votes.f), (.row false .i64 y.Next.n y.Next.f), (.row false .i64 y.Match.n y.Match.f)])
def out_impl_Node_H (d : D RT den) (os : List (Ob RT den)) : Option (S_impl_Node) := match d, os with | .agg [.int .i64 a0_1, .int .i64 a0_2, .int .i64 a0_3, .int .i64 a0_4, .rs za0_5 .impl_Entry na0_5 fa0_5, .int .i64 a0_6, .int .i64 a0_7, .rs za0_8 .i64 na0_8 fa0_8, .rs za0_9 .i64 na0_9 fa0_9, .rs za0_10 .i64 na0_10 fa0_10], [] => some (⟨a0_1, a0_2, a0_3, a0_4, (⟨za0_5, na0_5, fa0_5⟩ : (Sl S_impl_Entry)), a0_6, a0_7, (⟨za0_8, na0_8, fa0_8⟩ : (Sl Int)), (⟨za0_9, na0_9, fa0_9⟩ : (Sl Int)), (⟨za0_10, na0_10, fa0_10⟩ : (Sl Int))⟩ : S_impl_Node) | _, _ => none
theorem out_impl_Node_H_enc (d : D RT den) (os : List (Ob RT den)) (y : S_impl_Node) (h : out_impl_Node_H d os = some y) : (unh 0 d).1 = (enc_impl_Node_H y).1 ∧ os ++ (unh 0 d).2 = (enc_impl_Node_H y).2 := by
  unfold out_impl_Node_H at h
  split at h
  · cases h; exact ⟨rfl, rfl⟩
  · cases h
def enc_impl_Mail_H (y : S_impl_Mail) : D RT den × List (Ob RT den) := ((.agg [(.int .i64 y.Kind), (.int .i64 y.From), (.int .i64 y.To), (.int .i64 y.Term), (.int .i64 y.Index), (.int .i64 y.Last), (.int .i64 y.Commit), (.bool y.Ok), (.os 0 y.Entries.n)]), [(.row false .impl_Entry y.Entries.n y.Entries.f)])
def out_impl_Mail_H (d : D RT den) (os : List (Ob RT den)) : Option (S_impl_Mail) := match d, os with | .agg [.int .i64 a0_1, .int .i64 a0_2, .int .i64 a0_3, .int .i64 a0_4, .int .i64 a0_5, .int .i64 a0_6, .int .i64 a0_7, .bool a0_8, .rs za0_9 .impl_Entry na0_9 fa0_9], [] => some (⟨a0_1, a0_2, a0_3, a0_4, a0_5, a0_6, a0_7, a0_8, (⟨za0_9, na0_9, fa0_9⟩ : (Sl S_impl_Entry))⟩ : S_impl_Mail) | _, _ => none
theorem out_impl_Mail_H_enc (d : D RT den) (os : List (Ob RT den)) (y : S_impl_Mail) (h : out_impl_Mail_H d os = some y) : (unh 0 d).1 = (enc_impl_Mail_H y).1 ∧ os ++ (unh 0 d).2 = (enc_impl_Mail_H y).2 := by
  unfold out_impl_Mail_H at h
  split at h
  · cases h; exact ⟨rfl, rfl⟩
  · cases h
def enc_impl_Won (y : S_impl_Won) : D RT den := (.agg [(.int .i64 y.Term), (.int .i64 y.Node)])
def out_impl_Won (d : D RT den) : Option (S_impl_Won) := match d with | .agg [.int .i64 a0_1, .int .i64 a0_2] => some (⟨a0_1, a0_2⟩ : S_impl_Won) | _ => none
theorem out_impl_Won_enc (d : D RT den) (y : S_impl_Won) (h : out_impl_Won d = some y) : d = enc_impl_Won y := by
  unfold out_impl_Won at h
  split at h
  · cases h; rfl
  · cases h
def enc_sl_impl_Won_H (y : (Sl S_impl_Won)) : D RT den × List (Ob RT den) := ((.os 0 y.n), [(.row false .impl_Won y.n y.f)])
def out_sl_impl_Won_H (d : D RT den) (os : List (Ob RT den)) : Option ((Sl S_impl_Won)) := match d, os with | .rs za0_0 .impl_Won na0_0 fa0_0, [] => some (⟨za0_0, na0_0, fa0_0⟩ : (Sl S_impl_Won)) | _, _ => none
theorem out_sl_impl_Won_H_enc (d : D RT den) (os : List (Ob RT den)) (y : (Sl S_impl_Won)) (h : out_sl_impl_Won_H d os = some y) : (unh 0 d).1 = (enc_sl_impl_Won_H y).1 ∧ os ++ (unh 0 d).2 = (enc_sl_impl_Won_H y).2 := by
  unfold out_sl_impl_Won_H at h
  split at h
  · cases h; exact ⟨rfl, rfl⟩
  · cases h
def enc_impl_Seal (y : S_impl_Seal) : D RT den := (.agg [(.int .i64 y.Term), (.int .i64 y.Entry.Term), (.int .i64 y.Entry.Client), (.int .i64 y.Entry.Seq), (.int .i64 y.Entry.Cmd.Kind), (.int .i64 y.Entry.Cmd.Expect), (.int .i64 y.Entry.Cmd.Name), (.int .i64 y.Entry.Cmd.Addr), (.int .i64 y.Entry.Cmd.Number), (.int .i64 y.Entry.Cmd.Proto)])
def out_impl_Seal (d : D RT den) : Option (S_impl_Seal) := match d with | .agg [.int .i64 a0_1, .int .i64 a0_3, .int .i64 a0_4, .int .i64 a0_5, .int .i64 a0_7, .int .i64 a0_8, .int .i64 a0_9, .int .i64 a0_10, .int .i64 a0_11, .int .i64 a0_12] => some (⟨a0_1, (⟨a0_3, a0_4, a0_5, (⟨a0_7, a0_8, a0_9, a0_10, a0_11, a0_12⟩ : S_impl_Cmd)⟩ : S_impl_Entry)⟩ : S_impl_Seal) | _ => none
theorem out_impl_Seal_enc (d : D RT den) (y : S_impl_Seal) (h : out_impl_Seal d = some y) : d = enc_impl_Seal y := by
  unfold out_impl_Seal at h
  split at h
  · cases h; rfl
  · cases h
def enc_sl_impl_Seal_H (y : (Sl S_impl_Seal)) : D RT den × List (Ob RT den) := ((.os 0 y.n), [(.row false .impl_Seal y.n y.f)])
def out_sl_impl_Seal_H (d : D RT den) (os : List (Ob RT den)) : Option ((Sl S_impl_Seal)) := match d, os with | .rs za0_0 .impl_Seal na0_0 fa0_0, [] => some (⟨za0_0, na0_0, fa0_0⟩ : (Sl S_impl_Seal)) | _, _ => none
theorem out_sl_impl_Seal_H_enc (d : D RT den) (os : List (Ob RT den)) (y : (Sl S_impl_Seal)) (h : out_sl_impl_Seal_H d os = some y) : (unh 0 d).1 = (enc_sl_impl_Seal_H y).1 ∧ os ++ (unh 0 d).2 = (enc_sl_impl_Seal_H y).2 := by
  unfold out_sl_impl_Seal_H at h
  split at h
  · cases h; exact ⟨rfl, rfl⟩
  · cases h
def enc_bo (y : Bool) : D RT den := (.bool y)
def out_bo (d : D RT den) : Option (Bool) := match d with | .bool a0_0 => some a0_0 | _ => none
theorem out_bo_enc (d : D RT den) (y : Bool) (h : out_bo d = some y) : d = enc_bo y := by
  unfold out_bo at h
  split at h
  · cases h; rfl
  · cases h
def enc_bo_bo_bo_bo (y : Bool × Bool × Bool × Bool) : D RT den := (.tup [(.bool y.1), (.bool y.2.1), (.bool y.2.2.1), (.bool y.2.2.2)])
def out_bo_bo_bo_bo (d : D RT den) : Option (Bool × Bool × Bool × Bool) := match d with | .tup [.bool a0_0, .bool a1_0, .bool a2_0, .bool a3_0] => some (a0_0, a1_0, a2_0, a3_0) | _ => none
theorem out_bo_bo_bo_bo_enc (d : D RT den) (y : Bool × Bool × Bool × Bool) (h : out_bo_bo_bo_bo d = some y) : d = enc_bo_bo_bo_bo y := by
  unfold out_bo_bo_bo_bo at h
  split at h
  · cases h; rfl
  · cases h
def enc_i64 (y : Int) : D RT den := (.int .i64 y)
def out_i64 (d : D RT den) : Option (Int) := match d with | .int .i64 a0_0 => some a0_0 | _ => none
theorem out_i64_enc (d : D RT den) (y : Int) (h : out_i64 d = some y) : d = enc_i64 y := by
  unfold out_i64 at h
  split at h
  · cases h; rfl
  · cases h
def enc_impl_EntriesResult_H (y : S_impl_EntriesResult) : D RT den × List (Ob RT den) := ((.agg [(.int .i64 y.Code), (.os 0 y.Entries.n)]), [(.row false .impl_Entry y.Entries.n y.Entries.f)])
def out_impl_EntriesResult_H (d : D RT den) (os : List (Ob RT den)) : Option (S_impl_EntriesResult) := match d, os with | .agg [.int .i64 a0_1, .rs za0_2 .impl_Entry na0_2 fa0_2], [] => some (⟨a0_1, (⟨za0_2, na0_2, fa0_2⟩ : (Sl S_impl_Entry))⟩ : S_impl_EntriesResult) | _, _ => none
theorem out_impl_EntriesResult_H_enc (d : D RT den) (os : List (Ob RT den)) (y : S_impl_EntriesResult) (h : out_impl_EntriesResult_H d os = some y) : (unh 0 d).1 = (enc_impl_EntriesResult_H y).1 ∧ os ++ (unh 0 d).2 = (enc_impl_EntriesResult_H y).2 := by
  unfold out_impl_EntriesResult_H at h
  split at h
  · cases h; exact ⟨rfl, rfl⟩
  · cases h
end Go.Proofs.Ytmnbmponjhglcaa.Pc
