/- The tables of the program's types for the value machine. Conditions: none. -/
import Derived.Test.YtmdjkdgjmbfegaaVmS
import Derived.Test.YtmdjkdgjmbfegaaVmO
import Derived.Test.YtmdjkdgjmbfegaaProg
import Derived.KernelRfl
namespace Go.Proofs.Ytmdjkdgjmbfegaa.Pn
open Go Go.RowKit Go.Proofs Vm
set_option linter.unusedVariables false
set_option linter.unusedSimpArgs false
set_option maxRecDepth 100000
structure S_impl_Cmd where
  Kind : Int
  Expect : Int
  Name : Int
  Addr : Int
  Number : Int
  Proto : Int
structure S_impl_Entry where
  Term : Int
  Client : Int
  Seq : Int
  Cmd : S_impl_Cmd
structure S_impl_Node where
  Id : Int
  Peers : Int
  Term : Int
  Voted : Int
  Log : (Sl S_impl_Entry)
  Role : Int
  Commit : Int
  Votes : (Sl Int)
  Next : (Sl Int)
  Match : (Sl Int)
structure S_impl_Node_0 where
  Id : Int
  Peers : Int
  Term : Int
  Voted : Int
  Role : Int
  Commit : Int
structure S_impl_Mail where
  Kind : Int
  From : Int
  To : Int
  Term : Int
  Index : Int
  Last : Int
  Commit : Int
  Ok : Bool
  Entries : (Sl S_impl_Entry)
structure S_impl_Won where
  Term : Int
  Node : Int
structure S_impl_Seal where
  Term : Int
  Entry : S_impl_Entry
structure S_impl_Cluster where
  Nodes : (Sl S_impl_Node_0)
  Mails : (Sl S_impl_Mail)
  Wins : (Sl S_impl_Won)
  Seals : (Sl S_impl_Seal)
structure S_impl_ClusterResult where
  Code : Int
  Cluster : S_impl_Cluster
structure S_impl_NodeResult where
  Code : Int
  Node : S_impl_Node
  Send : (Sl S_impl_Mail)
inductive RT where
  | i64
  | impl_Entry
  | impl_Node
  | impl_Mail
  | impl_Won
  | impl_Seal

def RT.no : RT → Nat
  | .i64 => 0
  | .impl_Entry => 1
  | .impl_Node => 2
  | .impl_Mail => 3
  | .impl_Won => 4
  | .impl_Seal => 5

instance : DecidableEq RT := fun a b => if h : a.no = b.no then isTrue (by cases a <;> cases b <;> first | rfl | (cases h)) else isFalse (fun e => h (by rw [e]))
def den : RT → Type
  | .i64 => Int
  | .impl_Entry => S_impl_Entry
  | .impl_Node => S_impl_Node_0
  | .impl_Mail => S_impl_Mail
  | .impl_Won => S_impl_Won
  | .impl_Seal => S_impl_Seal

def W_i64 (n : Int) : Prop := (Lit.int .i64 n).wf = true
def dflt : (τ : RT) → den τ
  | .i64 => (0 : Int)
  | .impl_Entry => (⟨0, 0, 0, ⟨0, 0, 0, 0, 0, 0⟩⟩ : S_impl_Entry)
  | .impl_Node => (⟨0, 0, 0, 0, 0, 0⟩ : S_impl_Node_0)
  | .impl_Mail => (⟨0, 0, 0, 0, 0, 0, 0, false, ⟨some true, 0, fun _ => (⟨0, 0, 0, ⟨0, 0, 0, 0, 0, 0⟩⟩)⟩⟩ : S_impl_Mail)
  | .impl_Won => (⟨0, 0⟩ : S_impl_Won)
  | .impl_Seal => (⟨0, ⟨0, 0, 0, ⟨0, 0, 0, 0, 0, 0⟩⟩⟩ : S_impl_Seal)

def cellsR : (τ : RT) → den τ → List (D RT den)
  | .i64, (x : Int) => [(.int .i64 x)]
  | .impl_Entry, (x : S_impl_Entry) => [(.int .i64 x.Term), (.int .i64 x.Client), (.int .i64 x.Seq), (.int .i64 x.Cmd.Kind), (.int .i64 x.Cmd.Expect), (.int .i64 x.Cmd.Name), (.int .i64 x.Cmd.Addr), (.int .i64 x.Cmd.Number), (.int .i64 x.Cmd.Proto)]
  | .impl_Node, (x : S_impl_Node_0) => [(.int .i64 x.Id), (.int .i64 x.Peers), (.int .i64 x.Term), (.int .i64 x.Voted), (.emp true .impl_Entry), (.int .i64 x.Role), (.int .i64 x.Commit), (.emp true .i64), (.emp true .i64), (.emp true .i64)]
  | .impl_Mail, (x : S_impl_Mail) => [(.int .i64 x.Kind), (.int .i64 x.From), (.int .i64 x.To), (.int .i64 x.Term), (.int .i64 x.Index), (.int .i64 x.Last), (.int .i64 x.Commit), (.bool x.Ok), (.rs x.Entries.z .impl_Entry x.Entries.n x.Entries.f)]
  | .impl_Won, (x : S_impl_Won) => [(.int .i64 x.Term), (.int .i64 x.Node)]
  | .impl_Seal, (x : S_impl_Seal) => [(.int .i64 x.Term), (.int .i64 x.Entry.Term), (.int .i64 x.Entry.Client), (.int .i64 x.Entry.Seq), (.int .i64 x.Entry.Cmd.Kind), (.int .i64 x.Entry.Cmd.Expect), (.int .i64 x.Entry.Cmd.Name), (.int .i64 x.Entry.Cmd.Addr), (.int .i64 x.Entry.Cmd.Number), (.int .i64 x.Entry.Cmd.Proto)]

def dec_i64 (cs : List (D RT den)) : Option Int := match cs with | [.int .i64 a0_0] => some a0_0 | _ => none
theorem dec_i64_cells (cs : List (D RT den)) (x : Int) (h : dec_i64 cs = some x) : cellsR .i64 x = cs := by
  unfold dec_i64 at h
  split at h
  · cases h; rfl
  · cases h
def dec_impl_Entry (cs : List (D RT den)) : Option S_impl_Entry := match cs with | [.int .i64 a0_1, .int .i64 a0_2, .int .i64 a0_3, .int .i64 a0_5, .int .i64 a0_6, .int .i64 a0_7, .int .i64 a0_8, .int .i64 a0_9, .int .i64 a0_10] => some (⟨a0_1, a0_2, a0_3, (⟨a0_5, a0_6, a0_7, a0_8, a0_9, a0_10⟩ : S_impl_Cmd)⟩ : S_impl_Entry) | _ => none
theorem dec_impl_Entry_cells (cs : List (D RT den)) (x : S_impl_Entry) (h : dec_impl_Entry cs = some x) : cellsR .impl_Entry x = cs := by
  unfold dec_impl_Entry at h
  split at h
  · cases h; rfl
  · cases h
def dec_impl_Node (cs : List (D RT den)) : Option S_impl_Node_0 := match cs with | [.int .i64 a0_0, .int .i64 a1_0, .int .i64 a2_0, .int .i64 a3_0, .emp true .impl_Entry, .int .i64 a5_0, .int .i64 a6_0, .emp true .i64, .emp true .i64, .emp true .i64] => some (⟨a0_0, a1_0, a2_0, a3_0, a5_0, a6_0⟩ : S_impl_Node_0) | _ => none
theorem dec_impl_Node_cells (cs : List (D RT den)) (x : S_impl_Node_0) (h : dec_impl_Node cs = some x) : cellsR .impl_Node x = cs := by
  unfold dec_impl_Node at h
  split at h
  · cases h; rfl
  · cases h
def dec_impl_Mail (cs : List (D RT den)) : Option S_impl_Mail := match cs with | [.int .i64 a0_1, .int .i64 a0_2, .int .i64 a0_3, .int .i64 a0_4, .int .i64 a0_5, .int .i64 a0_6, .int .i64 a0_7, .bool a0_8, .rs za0_9 .impl_Entry na0_9 fa0_9] => some (⟨a0_1, a0_2, a0_3, a0_4, a0_5, a0_6, a0_7, a0_8, (⟨za0_9, na0_9, fa0_9⟩ : (Sl S_impl_Entry))⟩ : S_impl_Mail) | _ => none
theorem dec_impl_Mail_cells (cs : List (D RT den)) (x : S_impl_Mail) (h : dec_impl_Mail cs = some x) : cellsR .impl_Mail x = cs := by
  unfold dec_impl_Mail at h
  split at h
  · cases h; rfl
  · cases h
def dec_impl_Won (cs : List (D RT den)) : Option S_impl_Won := match cs with | [.int .i64 a0_1, .int .i64 a0_2] => some (⟨a0_1, a0_2⟩ : S_impl_Won) | _ => none
theorem dec_impl_Won_cells (cs : List (D RT den)) (x : S_impl_Won) (h : dec_impl_Won cs = some x) : cellsR .impl_Won x = cs := by
  unfold dec_impl_Won at h
  split at h
  · cases h; rfl
  · cases h
def dec_impl_Seal (cs : List (D RT den)) : Option S_impl_Seal := match cs with | [.int .i64 a0_1, .int .i64 a0_3, .int .i64 a0_4, .int .i64 a0_5, .int .i64 a0_7, .int .i64 a0_8, .int .i64 a0_9, .int .i64 a0_10, .int .i64 a0_11, .int .i64 a0_12] => some (⟨a0_1, (⟨a0_3, a0_4, a0_5, (⟨a0_7, a0_8, a0_9, a0_10, a0_11, a0_12⟩ : S_impl_Cmd)⟩ : S_impl_Entry)⟩ : S_impl_Seal) | _ => none
theorem dec_impl_Seal_cells (cs : List (D RT den)) (x : S_impl_Seal) (h : dec_impl_Seal cs = some x) : cellsR .impl_Seal x = cs := by
  unfold dec_impl_Seal at h
  split at h
  · cases h; rfl
  · cases h
def decR : (τ : RT) → List (D RT den) → Option (den τ)
  | .i64, cs => dec_i64 cs
  | .impl_Entry, cs => dec_impl_Entry cs
  | .impl_Node, cs => dec_impl_Node cs
  | .impl_Mail, cs => dec_impl_Mail cs
  | .impl_Won, cs => dec_impl_Won cs
  | .impl_Seal, cs => dec_impl_Seal cs

def sizeR : RT → Nat
  | .i64 => 1
  | .impl_Entry => 9
  | .impl_Node => 10
  | .impl_Mail => 9
  | .impl_Won => 2
  | .impl_Seal => 10

def sclR : RT → Bool
  | .i64 => true
  | .impl_Entry => true
  | .impl_Node => true
  | .impl_Mail => false
  | .impl_Won => true
  | .impl_Seal => true

def nilR : RT → Bool
  | .i64 => false
  | .impl_Entry => false
  | .impl_Node => true
  | .impl_Mail => false
  | .impl_Won => false
  | .impl_Seal => false

def rtl : List (Nat × RT) := [(2, .i64), (43, .impl_Entry), (48, .impl_Node), (113, .impl_Mail), (131, .impl_Won), (134, .impl_Seal)]
def zs : List (Nat × List (D RT den)) := [(48, [(.int .i64 0), (.int .i64 0), (.int .i64 0), (.int .i64 0), (.emp true .impl_Entry), (.int .i64 0), (.int .i64 0), (.emp true .i64), (.emp true .i64), (.emp true .i64)]), (51, [(.int .i64 0), (.int .i64 0), (.int .i64 0), (.int .i64 0), (.int .i64 0), (.emp true .impl_Entry), (.int .i64 0), (.int .i64 0), (.emp true .i64), (.emp true .i64), (.emp true .i64), (.emp true .impl_Mail)]), (68, [(.emp true .impl_Node), (.emp true .impl_Mail), (.emp true .impl_Won), (.emp true .impl_Seal)]), (70, [(.int .i64 0), (.emp true .impl_Node), (.emp true .impl_Mail), (.emp true .impl_Won), (.emp true .impl_Seal)])]
def tbl : List (Nat × TI) := [(2, ⟨1, 8, false, none, [], false, none, false, none⟩),
  (4, ⟨1, 1, false, none, [], false, none, true, none⟩),
  (24, ⟨1, 24, false, some 43, [], false, none, false, none⟩),
  (41, ⟨6, 48, true, none, [(0, 2), (1, 2), (2, 2), (3, 2), (4, 2), (5, 2)], false, none, false, none⟩),
  (43, ⟨9, 72, true, none, [(0, 2), (1, 2), (2, 2), (3, 41)], false, none, false, none⟩),
  (46, ⟨1, 24, false, some 2, [], false, none, false, none⟩),
  (48, ⟨10, 144, true, none, [(0, 2), (1, 2), (2, 2), (3, 2), (4, 24), (5, 2), (6, 2), (7, 46), (8, 46), (9, 46)], true, none, false, none⟩),
  (49, ⟨1, 24, false, some 113, [], false, none, false, none⟩),
  (51, ⟨12, 176, true, none, [(0, 2), (1, 48), (11, 49)], true, none, false, none⟩),
  (64, ⟨1, 24, false, some 48, [], false, none, false, none⟩),
  (65, ⟨1, 24, false, some 131, [], false, none, false, none⟩),
  (66, ⟨1, 24, false, some 134, [], false, none, false, none⟩),
  (68, ⟨4, 96, true, none, [(0, 64), (1, 49), (2, 65), (3, 66)], true, none, false, none⟩),
  (70, ⟨5, 104, true, none, [(0, 2), (1, 68)], true, none, false, none⟩),
  (113, ⟨9, 88, true, none, [(0, 2), (1, 2), (2, 2), (3, 2), (4, 2), (5, 2), (6, 2), (7, 4), (8, 24)], false, none, false, none⟩),
  (131, ⟨2, 16, true, none, [(0, 2), (1, 2)], false, none, false, none⟩),
  (134, ⟨10, 80, true, none, [(0, 2), (1, 43)], false, none, false, none⟩)]
noncomputable def fnT (f : Nat) : Option Func := match f with
  | 7 => some Try.f7
  | 13 => some Try.f13
  | 14 => some Try.f14
  | 26 => some Try.f26
  | 34 => some Try.f34
  | 36 => some Try.f36
  | 37 => some Try.f37
  | 38 => some Try.f38
  | 39 => some Try.f39
  | 40 => some Try.f40
  | 47 => some Try.f47
  | 48 => some Try.f48
  | 53 => some Try.f53
  | 62 => some Try.f62
  | 63 => some Try.f63
  | 64 => some Try.f64
  | 66 => some Try.f66
  | 72 => some Try.f72
  | 73 => some Try.f73
  | 74 => some Try.f74
  | 75 => some Try.f75
  | 76 => some Try.f76
  | 77 => some Try.f77
  | 81 => some Try.f81
  | 87 => some Try.f87
  | 88 => some Try.f88
  | 97 => some Try.f97
  | 98 => some Try.f98
  | 99 => some Try.f99
  | 100 => some Try.f100
  | 101 => some Try.f101
  | 102 => some Try.f102
  | 103 => some Try.f103
  | 104 => some Try.f104
  | 105 => some Try.f105
  | 115 => some Try.f115
  | 116 => some Try.f116
  | _ => none
def parT (f : Nat) : List Nat := []
def R : Vm.Rows RT den := ⟨fun t => rtl.lookup t, sizeR, cellsR, decR, (fun a b => decEq a b), dflt, fun t => zs.lookup t, sclR, nilR⟩
noncomputable def E : Env RT den := envOf Try.prog tbl R zs fnT parT
theorem rows_ok : RowsOk R tbl where
  size := by intro τ x; cases τ <;> rfl
  dec := by
    intro τ cs x h
    cases τ
    · exact dec_i64_cells cs x h
    · exact dec_impl_Entry_cells cs x h
    · exact dec_impl_Node_cells cs x h
    · exact dec_impl_Mail_cells cs x h
    · exact dec_impl_Won_cells cs x h
    · exact dec_impl_Seal_cells cs x h
  pure := by intro τ x; cases τ <;> rfl
  scl := by intro τ h x; cases τ <;> first | rfl | cases h
  rt := rt_of (by kernel_rfl)
theorem fn_ok : ∀ f g, fnT f = some g → Try.prog.funcs[f]? = some g := by
  intro f g h
  unfold fnT at h
  split at h <;> first | (cases h; kernel_rfl) | cases h
theorem E_ok : Ok E Try.prog := envOf_ok (by kernel_rfl) (by kernel_rfl) (by kernel_rfl) fn_ok rows_ok (by kernel_rfl)
def upd_impl_Node_0_1 (f : Nat → S_impl_Node_0) (j : Nat) (v0 : Int) : Nat → S_impl_Node_0 := fun i => if i = j then (⟨v0, (f j).Peers, (f j).Term, (f j).Voted, (f j).Role, (f j).Commit⟩ : S_impl_Node_0) else f i
def upd_impl_Node_1_1 (f : Nat → S_impl_Node_0) (j : Nat) (v0 : Int) : Nat → S_impl_Node_0 := fun i => if i = j then (⟨(f j).Id, v0, (f j).Term, (f j).Voted, (f j).Role, (f j).Commit⟩ : S_impl_Node_0) else f i
def upd_impl_Node_2_1 (f : Nat → S_impl_Node_0) (j : Nat) (v0 : Int) : Nat → S_impl_Node_0 := fun i => if i = j then (⟨(f j).Id, (f j).Peers, v0, (f j).Voted, (f j).Role, (f j).Commit⟩ : S_impl_Node_0) else f i
def upd_impl_Node_3_1 (f : Nat → S_impl_Node_0) (j : Nat) (v0 : Int) : Nat → S_impl_Node_0 := fun i => if i = j then (⟨(f j).Id, (f j).Peers, (f j).Term, v0, (f j).Role, (f j).Commit⟩ : S_impl_Node_0) else f i
def upd_impl_Node_5_1 (f : Nat → S_impl_Node_0) (j : Nat) (v0 : Int) : Nat → S_impl_Node_0 := fun i => if i = j then (⟨(f j).Id, (f j).Peers, (f j).Term, (f j).Voted, v0, (f j).Commit⟩ : S_impl_Node_0) else f i
def upd_impl_Node_6_1 (f : Nat → S_impl_Node_0) (j : Nat) (v0 : Int) : Nat → S_impl_Node_0 := fun i => if i = j then (⟨(f j).Id, (f j).Peers, (f j).Term, (f j).Voted, (f j).Role, v0⟩ : S_impl_Node_0) else f i
def upd_impl_Seal_0_1 (f : Nat → S_impl_Seal) (j : Nat) (v0 : Int) : Nat → S_impl_Seal := fun i => if i = j then (⟨v0, (f j).Entry⟩ : S_impl_Seal) else f i
def upd_impl_Seal_1_1 (f : Nat → S_impl_Seal) (j : Nat) (v0 : Int) : Nat → S_impl_Seal := fun i => if i = j then (⟨(f j).Term, (⟨v0, (f j).Entry.Client, (f j).Entry.Seq, (f j).Entry.Cmd⟩ : S_impl_Entry)⟩ : S_impl_Seal) else f i
def upd_impl_Seal_2_1 (f : Nat → S_impl_Seal) (j : Nat) (v0 : Int) : Nat → S_impl_Seal := fun i => if i = j then (⟨(f j).Term, (⟨(f j).Entry.Term, v0, (f j).Entry.Seq, (f j).Entry.Cmd⟩ : S_impl_Entry)⟩ : S_impl_Seal) else f i
def upd_impl_Seal_3_1 (f : Nat → S_impl_Seal) (j : Nat) (v0 : Int) : Nat → S_impl_Seal := fun i => if i = j then (⟨(f j).Term, (⟨(f j).Entry.Term, (f j).Entry.Client, v0, (f j).Entry.Cmd⟩ : S_impl_Entry)⟩ : S_impl_Seal) else f i
def upd_impl_Seal_4_1 (f : Nat → S_impl_Seal) (j : Nat) (v0 : Int) : Nat → S_impl_Seal := fun i => if i = j then (⟨(f j).Term, (⟨(f j).Entry.Term, (f j).Entry.Client, (f j).Entry.Seq, (⟨v0, (f j).Entry.Cmd.Expect, (f j).Entry.Cmd.Name, (f j).Entry.Cmd.Addr, (f j).Entry.Cmd.Number, (f j).Entry.Cmd.Proto⟩ : S_impl_Cmd)⟩ : S_impl_Entry)⟩ : S_impl_Seal) else f i
def upd_impl_Seal_5_1 (f : Nat → S_impl_Seal) (j : Nat) (v0 : Int) : Nat → S_impl_Seal := fun i => if i = j then (⟨(f j).Term, (⟨(f j).Entry.Term, (f j).Entry.Client, (f j).Entry.Seq, (⟨(f j).Entry.Cmd.Kind, v0, (f j).Entry.Cmd.Name, (f j).Entry.Cmd.Addr, (f j).Entry.Cmd.Number, (f j).Entry.Cmd.Proto⟩ : S_impl_Cmd)⟩ : S_impl_Entry)⟩ : S_impl_Seal) else f i
def upd_impl_Seal_6_1 (f : Nat → S_impl_Seal) (j : Nat) (v0 : Int) : Nat → S_impl_Seal := fun i => if i = j then (⟨(f j).Term, (⟨(f j).Entry.Term, (f j).Entry.Client, (f j).Entry.Seq, (⟨(f j).Entry.Cmd.Kind, (f j).Entry.Cmd.Expect, v0, (f j).Entry.Cmd.Addr, (f j).Entry.Cmd.Number, (f j).Entry.Cmd.Proto⟩ : S_impl_Cmd)⟩ : S_impl_Entry)⟩ : S_impl_Seal) else f i
def upd_impl_Seal_7_1 (f : Nat → S_impl_Seal) (j : Nat) (v0 : Int) : Nat → S_impl_Seal := fun i => if i = j then (⟨(f j).Term, (⟨(f j).Entry.Term, (f j).Entry.Client, (f j).Entry.Seq, (⟨(f j).Entry.Cmd.Kind, (f j).Entry.Cmd.Expect, (f j).Entry.Cmd.Name, v0, (f j).Entry.Cmd.Number, (f j).Entry.Cmd.Proto⟩ : S_impl_Cmd)⟩ : S_impl_Entry)⟩ : S_impl_Seal) else f i
def upd_impl_Seal_8_1 (f : Nat → S_impl_Seal) (j : Nat) (v0 : Int) : Nat → S_impl_Seal := fun i => if i = j then (⟨(f j).Term, (⟨(f j).Entry.Term, (f j).Entry.Client, (f j).Entry.Seq, (⟨(f j).Entry.Cmd.Kind, (f j).Entry.Cmd.Expect, (f j).Entry.Cmd.Name, (f j).Entry.Cmd.Addr, v0, (f j).Entry.Cmd.Proto⟩ : S_impl_Cmd)⟩ : S_impl_Entry)⟩ : S_impl_Seal) else f i
def upd_impl_Seal_9_1 (f : Nat → S_impl_Seal) (j : Nat) (v0 : Int) : Nat → S_impl_Seal := fun i => if i = j then (⟨(f j).Term, (⟨(f j).Entry.Term, (f j).Entry.Client, (f j).Entry.Seq, (⟨(f j).Entry.Cmd.Kind, (f j).Entry.Cmd.Expect, (f j).Entry.Cmd.Name, (f j).Entry.Cmd.Addr, (f j).Entry.Cmd.Number, v0⟩ : S_impl_Cmd)⟩ : S_impl_Entry)⟩ : S_impl_Seal) else f i
def upd_impl_Won_0_1 (f : Nat → S_impl_Won) (j : Nat) (v0 : Int) : Nat → S_impl_Won := fun i => if i = j then (⟨v0, (f j).Node⟩ : S_impl_Won) else f i
def upd_impl_Won_1_1 (f : Nat → S_impl_Won) (j : Nat) (v0 : Int) : Nat → S_impl_Won := fun i => if i = j then (⟨(f j).Term, v0⟩ : S_impl_Won) else f i
def enc_impl_ClusterResult_E (y : S_impl_ClusterResult) : D RT den × List (Ob RT den) := ((.agg [(.int .i64 y.Code), (.emp true .impl_Node), (.emp true .impl_Mail), (.emp true .impl_Won), (.emp true .impl_Seal)]), [])
def out_impl_ClusterResult_E (d : D RT den) (os : List (Ob RT den)) : Option (S_impl_ClusterResult) := match d, os with | .agg [.int .i64 a0_1, .emp true .impl_Node, .emp true .impl_Mail, .emp true .impl_Won, .emp true .impl_Seal], [] => some (⟨a0_1, (⟨(⟨some true, 0, fun _ => dflt .impl_Node⟩ : (Sl S_impl_Node_0)), (⟨some true, 0, fun _ => dflt .impl_Mail⟩ : (Sl S_impl_Mail)), (⟨some true, 0, fun _ => dflt .impl_Won⟩ : (Sl S_impl_Won)), (⟨some true, 0, fun _ => dflt .impl_Seal⟩ : (Sl S_impl_Seal))⟩ : S_impl_Cluster)⟩ : S_impl_ClusterResult) | _, _ => none
theorem out_impl_ClusterResult_E_enc (d : D RT den) (os : List (Ob RT den)) (y : S_impl_ClusterResult) (h : out_impl_ClusterResult_E d os = some y) : (unh 0 d).1 = (enc_impl_ClusterResult_E y).1 ∧ os ++ (unh 0 d).2 = (enc_impl_ClusterResult_E y).2 := by
  unfold out_impl_ClusterResult_E at h
  split at h
  · cases h; exact ⟨rfl, rfl⟩
  · cases h
def enc_bo (y : Bool) : D RT den := (.bool y)
def out_bo (d : D RT den) : Option (Bool) := match d with | .bool a0_0 => some a0_0 | _ => none
theorem out_bo_enc (d : D RT den) (y : Bool) (h : out_bo d = some y) : d = enc_bo y := by
  unfold out_bo at h
  split at h
  · cases h; rfl
  · cases h
def enc_impl_ClusterResult_H (y : S_impl_ClusterResult) : D RT den × List (Ob RT den) := ((.agg [(.int .i64 y.Code), (.os 0 y.Cluster.Nodes.n), (.emp true .impl_Mail), (.os 1 y.Cluster.Wins.n), (.os 2 y.Cluster.Seals.n)]), [(.row false .impl_Node y.Cluster.Nodes.n y.Cluster.Nodes.f), (.row false .impl_Won y.Cluster.Wins.n y.Cluster.Wins.f), (.row false .impl_Seal y.Cluster.Seals.n y.Cluster.Seals.f)])
def out_impl_ClusterResult_H (d : D RT den) (os : List (Ob RT den)) : Option (S_impl_ClusterResult) := match d, os with | .agg [.int .i64 a0_1, .rs za0_3 .impl_Node na0_3 fa0_3, .emp true .impl_Mail, .rs za0_5 .impl_Won na0_5 fa0_5, .rs za0_6 .impl_Seal na0_6 fa0_6], [] => some (⟨a0_1, (⟨(⟨za0_3, na0_3, fa0_3⟩ : (Sl S_impl_Node_0)), (⟨some true, 0, fun _ => dflt .impl_Mail⟩ : (Sl S_impl_Mail)), (⟨za0_5, na0_5, fa0_5⟩ : (Sl S_impl_Won)), (⟨za0_6, na0_6, fa0_6⟩ : (Sl S_impl_Seal))⟩ : S_impl_Cluster)⟩ : S_impl_ClusterResult) | _, _ => none
theorem out_impl_ClusterResult_H_enc (d : D RT den) (os : List (Ob RT den)) (y : S_impl_ClusterResult) (h : out_impl_ClusterResult_H d os = some y) : (unh 0 d).1 = (enc_impl_ClusterResult_H y).1 ∧ os ++ (unh 0 d).2 = (enc_impl_ClusterResult_H y).2 := by
  unfold out_impl_ClusterResult_H at h
  split at h
  · cases h; exact ⟨rfl, rfl⟩
  · cases h
def enc_impl_NodeResult_E (y : S_impl_NodeResult) : D RT den × List (Ob RT den) := ((.agg [(.int .i64 y.Code), (.int .i64 y.Node.Id), (.int .i64 y.Node.Peers), (.int .i64 y.Node.Term), (.int .i64 y.Node.Voted), (.emp true .impl_Entry), (.int .i64 y.Node.Role), (.int .i64 y.Node.Commit), (.emp true .i64), (.emp true .i64), (.emp true .i64), (.emp true .impl_Mail)]), [])
def out_impl_NodeResult_E (d : D RT den) (os : List (Ob RT den)) : Option (S_impl_NodeResult) := match d, os with | .agg [.int .i64 a0_1, .int .i64 a0_3, .int .i64 a0_4, .int .i64 a0_5, .int .i64 a0_6, .emp true .impl_Entry, .int .i64 a0_8, .int .i64 a0_9, .emp true .i64, .emp true .i64, .emp true .i64, .emp true .impl_Mail], [] => some (⟨a0_1, (⟨a0_3, a0_4, a0_5, a0_6, (⟨some true, 0, fun _ => dflt .impl_Entry⟩ : (Sl S_impl_Entry)), a0_8, a0_9, (⟨some true, 0, fun _ => dflt .i64⟩ : (Sl Int)), (⟨some true, 0, fun _ => dflt .i64⟩ : (Sl Int)), (⟨some true, 0, fun _ => dflt .i64⟩ : (Sl Int))⟩ : S_impl_Node), (⟨some true, 0, fun _ => dflt .impl_Mail⟩ : (Sl S_impl_Mail))⟩ : S_impl_NodeResult) | _, _ => none
theorem out_impl_NodeResult_E_enc (d : D RT den) (os : List (Ob RT den)) (y : S_impl_NodeResult) (h : out_impl_NodeResult_E d os = some y) : (unh 0 d).1 = (enc_impl_NodeResult_E y).1 ∧ os ++ (unh 0 d).2 = (enc_impl_NodeResult_E y).2 := by
  unfold out_impl_NodeResult_E at h
  split at h
  · cases h; exact ⟨rfl, rfl⟩
  · cases h
def enc_i64 (y : Int) : D RT den := (.int .i64 y)
def out_i64 (d : D RT den) : Option (Int) := match d with | .int .i64 a0_0 => some a0_0 | _ => none
theorem out_i64_enc (d : D RT den) (y : Int) (h : out_i64 d = some y) : d = enc_i64 y := by
  unfold out_i64 at h
  split at h
  · cases h; rfl
  · cases h
end Go.Proofs.Ytmdjkdgjmbfegaa.Pn
