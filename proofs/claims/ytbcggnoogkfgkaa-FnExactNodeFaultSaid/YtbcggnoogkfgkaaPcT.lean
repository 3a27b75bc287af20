/- The tables of the program's types for the value machine. Conditions: none. -/
import Derived.Test.YtbcggnoogkfgkaaVmO
import Derived.Test.YtbcggnoogkfgkaaProg
import Derived.KernelRfl
namespace Go.Proofs.Ytbcggnoogkfgkaa.Pc
open Go Go.RowKit Go.Proofs Vm
set_option linter.unusedVariables false
set_option linter.unusedSimpArgs false
set_option maxRecDepth 100000
structure S_impl_Cmd where
  Kind : Int
  Expect : Int
  Name : Int
  Addr : Int
  Number : Int
  Proto : Int
structure S_laws_Entry where
  Term : Int
  Client : Int
  Seq : Int
  Cmd : S_impl_Cmd
structure S_laws_Node where
  Id : Int
  Peers : Int
  Term : Int
  Voted : Int
  Log : (Sl S_laws_Entry)
  Role : Int
  Commit : Int
  Votes : (Sl Int)
  Next : (Sl Int)
  Match : (Sl Int)
structure S_impl_Entry where
  Term : Int
  Client : Int
  Seq : Int
  Cmd : S_impl_Cmd
structure S_impl_Node where
  Id : Int
  Peers : Int
  Term : Int
  Voted : Int
  Log : (Sl S_impl_Entry)
  Role : Int
  Commit : Int
  Votes : (Sl Int)
  Next : (Sl Int)
  Match : (Sl Int)
inductive RT where
  | i64
  | laws_Entry
  | impl_Entry

def RT.no : RT → Nat
  | .i64 => 0
  | .laws_Entry => 1
  | .impl_Entry => 2

instance : DecidableEq RT := fun a b => if h : a.no = b.no then isTrue (by cases a <;> cases b <;> first | rfl | (cases h)) else isFalse (fun e => h (by rw [e]))
def den : RT → Type
  | .i64 => Int
  | .laws_Entry => S_laws_Entry
  | .impl_Entry => S_impl_Entry

def W_i64 (n : Int) : Prop := (Lit.int .i64 n).wf = true
def W_impl_Cmd (x : S_impl_Cmd) : Prop := W_i64 x.Kind ∧ W_i64 x.Expect ∧ W_i64 x.Name ∧ W_i64 x.Addr ∧ W_i64 x.Number ∧ W_i64 x.Proto
def W_laws_Entry (x : S_laws_Entry) : Prop := W_i64 x.Term ∧ W_i64 x.Client ∧ W_i64 x.Seq ∧ W_impl_Cmd x.Cmd
def W_sl_laws_Entry (x : (Sl S_laws_Entry)) : Prop := x.n ≤ maxLen ∧ ∀ i, i < x.n → W_laws_Entry (x.f i)
def W_sl_i64 (x : (Sl Int)) : Prop := x.n ≤ maxLen ∧ ∀ i, i < x.n → W_i64 (x.f i)
def W_laws_Node (x : S_laws_Node) : Prop := W_i64 x.Id ∧ W_i64 x.Peers ∧ W_i64 x.Term ∧ W_i64 x.Voted ∧ W_sl_laws_Entry x.Log ∧ W_i64 x.Role ∧ W_i64 x.Commit ∧ W_sl_i64 x.Votes ∧ W_sl_i64 x.Next ∧ W_sl_i64 x.Match
def dflt : (τ : RT) → den τ
  | .i64 => (0 : Int)
  | .laws_Entry => (⟨0, 0, 0, ⟨0, 0, 0, 0, 0, 0⟩⟩ : S_laws_Entry)
  | .impl_Entry => (⟨0, 0, 0, ⟨0, 0, 0, 0, 0, 0⟩⟩ : S_impl_Entry)

def cellsR : (τ : RT) → den τ → List (D RT den)
  | .i64, (x : Int) => [(.int .i64 x)]
  | .laws_Entry, (x : S_laws_Entry) => [(.int .i64 x.Term), (.int .i64 x.Client), (.int .i64 x.Seq), (.int .i64 x.Cmd.Kind), (.int .i64 x.Cmd.Expect), (.int .i64 x.Cmd.Name), (.int .i64 x.Cmd.Addr), (.int .i64 x.Cmd.Number), (.int .i64 x.Cmd.Proto)]
  | .impl_Entry, (x : S_impl_Entry) => [(.int .i64 x.Term), (.int .i64 x.Client), (.int .i64 x.Seq), (.int .i64 x.Cmd.Kind), (.int .i64 x.Cmd.Expect), (.int .i64 x.Cmd.Name), (.int .i64 x.Cmd.Addr), (.int .i64 x.Cmd.Number), (.int .i64 x.Cmd.Proto)]

def dec_i64 (cs : List (D RT den)) : Option Int := match cs with | [.int .i64 a0_0] => some a0_0 | _ => none
theorem dec_i64_cells (cs : List (D RT den)) (x : Int) (h : dec_i64 cs = some x) : cellsR .i64 x = cs := by
  unfold dec_i64 at h
  split at h
  · cases h; rfl
  · cases h
def dec_laws_Entry (cs : List (D RT den)) : Option S_laws_Entry := match cs with | [.int .i64 a0_1, .int .i64 a0_2, .int .i64 a0_3, .int .i64 a0_5, .int .i64 a0_6, .int .i64 a0_7, .int .i64 a0_8, .int .i64 a0_9, .int .i64 a0_10] => some (⟨a0_1, a0_2, a0_3, (⟨a0_5, a0_6, a0_7, a0_8, a0_9, a0_10⟩ : S_impl_Cmd)⟩ : S_laws_Entry) | _ => none
theorem dec_laws_Entry_cells (cs : List (D RT den)) (x : S_laws_Entry) (h : dec_laws_Entry cs = some x) : cellsR .laws_Entry x = cs := by
  unfold dec_laws_Entry at h
  split at h
  · cases h; rfl
  · cases h
def dec_impl_Entry (cs : List (D RT den)) : Option S_impl_Entry := match cs with | [.int .i64 a0_1, .int .i64 a0_2, .int .i64 a0_3, .int .i64 a0_5, .int .i64 a0_6, .int .i64 a0_7, .int .i64 a0_8, .int .i64 a0_9, .int .i64 a0_10] => some (⟨a0_1, a0_2, a0_3, (⟨a0_5, a0_6, a0_7, a0_8, a0_9, a0_10⟩ : S_impl_Cmd)⟩ : S_impl_Entry) | _ => none
theorem dec_impl_Entry_cells (cs : List (D RT den)) (x : S_impl_Entry) (h : dec_impl_Entry cs = some x) : cellsR .impl_Entry x = cs := by
  unfold dec_impl_Entry at h
  split at h
  · cases h; rfl
  · cases h
def decR : (τ : RT) → List (D RT den) → Option (den τ)
  | .i64, cs => dec_i64 cs
  | .laws_Entry, cs => dec_laws_Entry cs
  | .impl_Entry, cs => dec_impl_Entry cs

def sizeR : RT → Nat
  | .i64 => 1
  | .laws_Entry => 9
  | .impl_Entry => 9

def rtl : List (Nat × RT) := [(2, .i64), (32, .laws_Entry), (36, .impl_Entry)]
def zs : List (Nat × List (D RT den)) := [(2, [(.int .i64 0)]), (34, [(.int .i64 0), (.int .i64 0), (.int .i64 0), (.int .i64 0), (.int .i64 0), (.int .i64 0)]), (36, [(.int .i64 0), (.int .i64 0), (.int .i64 0), (.int .i64 0), (.int .i64 0), (.int .i64 0), (.int .i64 0), (.int .i64 0), (.int .i64 0)]), (49, [(.int .i64 0), (.int .i64 0), (.int .i64 0), (.int .i64 0), (.emp true .impl_Entry), (.int .i64 0), (.int .i64 0), (.emp true .i64), (.emp true .i64), (.emp true .i64)])]
def tbl : List (Nat × TI) := [(2, ⟨1, 8, false, none, [], false, none, false, none⟩),
  (4, ⟨1, 1, false, none, [], false, none, true, none⟩),
  (22, ⟨1, 24, false, some 32, [], false, none, false, none⟩),
  (25, ⟨1, 24, false, some 36, [], false, none, false, none⟩),
  (30, ⟨6, 48, true, none, [(0, 2), (1, 2), (2, 2), (3, 2), (4, 2), (5, 2)], false, none, false, none⟩),
  (32, ⟨9, 72, true, none, [(0, 2), (1, 2), (2, 2), (3, 30)], false, none, false, none⟩),
  (34, ⟨6, 48, true, none, [(0, 2), (1, 2), (2, 2), (3, 2), (4, 2), (5, 2)], true, (some [true, true, true, true, true, true]), false, none⟩),
  (36, ⟨9, 72, true, none, [(0, 2), (1, 2), (2, 2), (3, 34)], true, (some [true, true, true, true, true, true, true, true, true]), false, none⟩),
  (43, ⟨1, 24, false, some 2, [], false, none, false, none⟩),
  (45, ⟨10, 144, true, none, [(0, 2), (1, 2), (2, 2), (3, 2), (4, 22), (5, 2), (6, 2), (7, 43), (8, 43), (9, 43)], false, none, false, none⟩),
  (49, ⟨10, 144, true, none, [(0, 2), (1, 2), (2, 2), (3, 2), (4, 25), (5, 2), (6, 2), (7, 43), (8, 43), (9, 43)], false, none, false, none⟩)]
noncomputable def fnT (f : Nat) : Option Func := match f with
  | 3 => some Try.f3
  | 4 => some Try.f4
  | 5 => some Try.f5
  | 6 => some Try.f6
  | 7 => some Try.f7
  | 8 => some Try.f8
  | 9 => some Try.f9
  | 10 => some Try.f10
  | 11 => some Try.f11
  | 12 => some Try.f12
  | 13 => some Try.f13
  | 14 => some Try.f14
  | 15 => some Try.f15
  | 16 => some Try.f16
  | 17 => some Try.f17
  | 18 => some Try.f18
  | 19 => some Try.f19
  | 20 => some Try.f20
  | 21 => some Try.f21
  | 22 => some Try.f22
  | 23 => some Try.f23
  | 24 => some Try.f24
  | 25 => some Try.f25
  | 26 => some Try.f26
  | 27 => some Try.f27
  | 28 => some Try.f28
  | 29 => some Try.f29
  | 30 => some Try.f30
  | 31 => some Try.f31
  | 32 => some Try.f32
  | 33 => some Try.f33
  | 34 => some Try.f34
  | 35 => some Try.f35
  | 36 => some Try.f36
  | 37 => some Try.f37
  | 38 => some Try.f38
  | 39 => some Try.f39
  | 40 => some Try.f40
  | 41 => some Try.f41
  | 42 => some Try.f42
  | 43 => some Try.f43
  | 44 => some Try.f44
  | 45 => some Try.f45
  | 46 => some Try.f46
  | 47 => some Try.f47
  | 48 => some Try.f48
  | 49 => some Try.f49
  | 50 => some Try.f50
  | 51 => some Try.f51
  | 52 => some Try.f52
  | 53 => some Try.f53
  | 54 => some Try.f54
  | 55 => some Try.f55
  | 56 => some Try.f56
  | 57 => some Try.f57
  | 58 => some Try.f58
  | 59 => some Try.f59
  | 60 => some Try.f60
  | 61 => some Try.f61
  | 62 => some Try.f62
  | 63 => some Try.f63
  | 64 => some Try.f64
  | 65 => some Try.f65
  | 66 => some Try.f66
  | 67 => some Try.f67
  | _ => none
def parT (f : Nat) : List Nat := []
def R : Vm.Rows RT den := ⟨fun t => rtl.lookup t, sizeR, cellsR, decR, dflt, fun t => zs.lookup t⟩
noncomputable def E : Env RT den := envOf Try.prog tbl R zs fnT parT
theorem rows_ok : RowsOk R tbl where
  size := by intro τ x; cases τ <;> rfl
  dec := by
    intro τ cs x h
    cases τ
    · exact dec_i64_cells cs x h
    · exact dec_laws_Entry_cells cs x h
    · exact dec_impl_Entry_cells cs x h
  pure := by intro τ x; cases τ <;> rfl
  rt := rt_of (by kernel_rfl)
theorem fn_ok : ∀ f g, fnT f = some g → Try.prog.funcs[f]? = some g := by
  intro f g h
  unfold fnT at h
  split at h <;> first | (cases h; kernel_rfl) | cases h
theorem E_ok : Ok E Try.prog := envOf_ok (by kernel_rfl) (by kernel_rfl) (by kernel_rfl) fn_ok rows_ok (by kernel_rfl)
def enc_i64 (y : Int) : D RT den := (.int .i64 y)
def out_i64 (d : D RT den) : Option (Int) := match d with | .int .i64 a0_0 => some a0_0 | _ => none
theorem out_i64_enc (d : D RT den) (y : Int) (h : out_i64 d = some y) : d = enc_i64 y := by
  unfold out_i64 at h
  split at h
  · cases h; rfl
  · cases h
def enc_impl_Cmd (y : S_impl_Cmd) : D RT den := (.agg [(.int .i64 y.Kind), (.int .i64 y.Expect), (.int .i64 y.Name), (.int .i64 y.Addr), (.int .i64 y.Number), (.int .i64 y.Proto)])
def out_impl_Cmd (d : D RT den) : Option (S_impl_Cmd) := match d with | .agg [.int .i64 a0_1, .int .i64 a0_2, .int .i64 a0_3, .int .i64 a0_4, .int .i64 a0_5, .int .i64 a0_6] => some (⟨a0_1, a0_2, a0_3, a0_4, a0_5, a0_6⟩ : S_impl_Cmd) | _ => none
theorem out_impl_Cmd_enc (d : D RT den) (y : S_impl_Cmd) (h : out_impl_Cmd d = some y) : d = enc_impl_Cmd y := by
  unfold out_impl_Cmd at h
  split at h
  · cases h; rfl
  · cases h
def enc_impl_Entry (y : S_impl_Entry) : D RT den := (.agg [(.int .i64 y.Term), (.int .i64 y.Client), (.int .i64 y.Seq), (.int .i64 y.Cmd.Kind), (.int .i64 y.Cmd.Expect), (.int .i64 y.Cmd.Name), (.int .i64 y.Cmd.Addr), (.int .i64 y.Cmd.Number), (.int .i64 y.Cmd.Proto)])
def out_impl_Entry (d : D RT den) : Option (S_impl_Entry) := match d with | .agg [.int .i64 a0_1, .int .i64 a0_2, .int .i64 a0_3, .int .i64 a0_5, .int .i64 a0_6, .int .i64 a0_7, .int .i64 a0_8, .int .i64 a0_9, .int .i64 a0_10] => some (⟨a0_1, a0_2, a0_3, (⟨a0_5, a0_6, a0_7, a0_8, a0_9, a0_10⟩ : S_impl_Cmd)⟩ : S_impl_Entry) | _ => none
theorem out_impl_Entry_enc (d : D RT den) (y : S_impl_Entry) (h : out_impl_Entry d = some y) : d = enc_impl_Entry y := by
  unfold out_impl_Entry at h
  split at h
  · cases h; rfl
  · cases h
def enc_sl_impl_Entry (y : (Sl S_impl_Entry)) : D RT den := (.rs y.z .impl_Entry y.n y.f)
def out_sl_impl_Entry (d : D RT den) : Option ((Sl S_impl_Entry)) := match d with | .rs za0_0 .impl_Entry na0_0 fa0_0 => some (⟨za0_0, na0_0, fa0_0⟩ : (Sl S_impl_Entry)) | _ => none
theorem out_sl_impl_Entry_enc (d : D RT den) (y : (Sl S_impl_Entry)) (h : out_sl_impl_Entry d = some y) : d = enc_sl_impl_Entry y := by
  unfold out_sl_impl_Entry at h
  split at h
  · cases h; rfl
  · cases h
def enc_b (y : Bool) : D RT den := (.bool y)
def out_b (d : D RT den) : Option (Bool) := match d with | .bool a0_0 => some a0_0 | _ => none
theorem out_b_enc (d : D RT den) (y : Bool) (h : out_b d = some y) : d = enc_b y := by
  unfold out_b at h
  split at h
  · cases h; rfl
  · cases h
def enc_b_b_b_b (y : Bool × Bool × Bool × Bool) : D RT den := (.tup [(.bool y.1), (.bool y.2.1), (.bool y.2.2.1), (.bool y.2.2.2)])
def out_b_b_b_b (d : D RT den) : Option (Bool × Bool × Bool × Bool) := match d with | .tup [.bool a0_0, .bool a1_0, .bool a2_0, .bool a3_0] => some (a0_0, a1_0, a2_0, a3_0) | _ => none
theorem out_b_b_b_b_enc (d : D RT den) (y : Bool × Bool × Bool × Bool) (h : out_b_b_b_b d = some y) : d = enc_b_b_b_b y := by
  unfold out_b_b_b_b at h
  split at h
  · cases h; rfl
  · cases h
def enc_sl_i64 (y : (Sl Int)) : D RT den := (.rs y.z .i64 y.n y.f)
def out_sl_i64 (d : D RT den) : Option ((Sl Int)) := match d with | .rs za0_0 .i64 na0_0 fa0_0 => some (⟨za0_0, na0_0, fa0_0⟩ : (Sl Int)) | _ => none
theorem out_sl_i64_enc (d : D RT den) (y : (Sl Int)) (h : out_sl_i64 d = some y) : d = enc_sl_i64 y := by
  unfold out_sl_i64 at h
  split at h
  · cases h; rfl
  · cases h
def enc_impl_Node (y : S_impl_Node) : D RT den := (.agg [(.int .i64 y.Id), (.int .i64 y.Peers), (.int .i64 y.Term), (.int .i64 y.Voted), (.rs y.Log.z .impl_Entry y.Log.n y.Log.f), (.int .i64 y.Role), (.int .i64 y.Commit), (.rs y.Votes.z .i64 y.Votes.n y.Votes.f), (.rs y.Next.z .i64 y.Next.n y.Next.f), (.rs y.Match.z .i64 y.Match.n y.Match.f)])
def out_impl_Node (d : D RT den) : Option (S_impl_Node) := match d with | .agg [.int .i64 a0_1, .int .i64 a0_2, .int .i64 a0_3, .int .i64 a0_4, .rs za0_5 .impl_Entry na0_5 fa0_5, .int .i64 a0_6, .int .i64 a0_7, .rs za0_8 .i64 na0_8 fa0_8, .rs za0_9 .i64 na0_9 fa0_9, .rs za0_10 .i64 na0_10 fa0_10] => some (⟨a0_1, a0_2, a0_3, a0_4, (⟨za0_5, na0_5, fa0_5⟩ : (Sl S_impl_Entry)), a0_6, a0_7, (⟨za0_8, na0_8, fa0_8⟩ : (Sl Int)), (⟨za0_9, na0_9, fa0_9⟩ : (Sl Int)), (⟨za0_10, na0_10, fa0_10⟩ : (Sl Int))⟩ : S_impl_Node) | _ => none
theorem out_impl_Node_enc (d : D RT den) (y : S_impl_Node) (h : out_impl_Node d = some y) : d = enc_impl_Node y := by
  unfold out_impl_Node at h
  split at h
  · cases h; rfl
  · cases h
end Go.Proofs.Ytbcggnoogkfgkaa.Pc
