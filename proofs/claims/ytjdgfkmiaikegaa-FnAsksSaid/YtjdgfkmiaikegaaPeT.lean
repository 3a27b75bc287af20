/- The tables of the program's types for the value machine. Conditions: none. -/
import Derived.Test.YtjdgfkmiaikegaaVmU
import Derived.Test.YtjdgfkmiaikegaaVmO
import Derived.Test.YtjdgfkmiaikegaaProg
import Derived.KernelRfl
namespace Go.Proofs.Ytjdgfkmiaikegaa.Pe
open Go Go.RowKit Go.Proofs Vm
set_option linter.unusedVariables false
set_option linter.unusedSimpArgs false
set_option maxRecDepth 100000
structure S_impl_Cmd where
  Kind : Int
  Expect : Int
  Name : Int
  Addr : Int
  Number : Int
  Proto : Int
structure S_impl_Entry where
  Term : Int
  Client : Int
  Seq : Int
  Cmd : S_impl_Cmd
structure S_impl_Mail where
  Kind : Int
  From : Int
  To : Int
  Term : Int
  Index : Int
  Last : Int
  Commit : Int
  Ok : Bool
  Entries : (Sl S_impl_Entry)
structure S_impl_Node where
  Id : Int
  Peers : Int
  Term : Int
  Voted : Int
  Log : (Sl S_impl_Entry)
  Role : Int
  Commit : Int
  Votes : (Sl Int)
  Next : (Sl Int)
  Match : (Sl Int)
structure S_spec_l1Src where
  Code : (Sl Int)
  At : Int
inductive RT where
  | i64
  | u8
  | impl_Entry
  | impl_Mail

def RT.no : RT → Nat
  | .i64 => 0
  | .u8 => 1
  | .impl_Entry => 2
  | .impl_Mail => 3

instance : DecidableEq RT := fun a b => if h : a.no = b.no then isTrue (by cases a <;> cases b <;> first | rfl | (cases h)) else isFalse (fun e => h (by rw [e]))
def den : RT → Type
  | .i64 => Int
  | .u8 => Int
  | .impl_Entry => S_impl_Entry
  | .impl_Mail => S_impl_Mail

def W_u8 (n : Int) : Prop := (Lit.int .u8 n).wf = true
def W_sl_u8 (x : (Sl Int)) : Prop := x.n ≤ maxLen ∧ ∀ i, i < x.n → W_u8 (x.f i)
def dflt : (τ : RT) → den τ
  | .i64 => (0 : Int)
  | .u8 => (0 : Int)
  | .impl_Entry => (⟨0, 0, 0, ⟨0, 0, 0, 0, 0, 0⟩⟩ : S_impl_Entry)
  | .impl_Mail => (⟨0, 0, 0, 0, 0, 0, 0, false, ⟨some true, 0, fun _ => (⟨0, 0, 0, ⟨0, 0, 0, 0, 0, 0⟩⟩)⟩⟩ : S_impl_Mail)

def cellsR : (τ : RT) → den τ → List (D RT den)
  | .i64, (x : Int) => [(.int .i64 x)]
  | .u8, (x : Int) => [(.int .u8 x)]
  | .impl_Entry, (x : S_impl_Entry) => [(.int .i64 x.Term), (.int .i64 x.Client), (.int .i64 x.Seq), (.int .i64 x.Cmd.Kind), (.int .i64 x.Cmd.Expect), (.int .i64 x.Cmd.Name), (.int .i64 x.Cmd.Addr), (.int .i64 x.Cmd.Number), (.int .i64 x.Cmd.Proto)]
  | .impl_Mail, (x : S_impl_Mail) => [(.int .i64 x.Kind), (.int .i64 x.From), (.int .i64 x.To), (.int .i64 x.Term), (.int .i64 x.Index), (.int .i64 x.Last), (.int .i64 x.Commit), (.bool x.Ok), (.rs x.Entries.z .impl_Entry x.Entries.n x.Entries.f)]

def dec_i64 (cs : List (D RT den)) : Option Int := match cs with | [.int .i64 a0_0] => some a0_0 | _ => none
theorem dec_i64_cells (cs : List (D RT den)) (x : Int) (h : dec_i64 cs = some x) : cellsR .i64 x = cs := by
  unfold dec_i64 at h
  split at h
  · cases h; rfl
  · cases h
def dec_u8 (cs : List (D RT den)) : Option Int := match cs with | [.int .u8 a0_0] => some a0_0 | _ => none
theorem dec_u8_cells (cs : List (D RT den)) (x : Int) (h : dec_u8 cs = some x) : cellsR .u8 x = cs := by
  unfold dec_u8 at h
  split at h
  · cases h; rfl
  · cases h
def dec_impl_Entry (cs : List (D RT den)) : Option S_impl_Entry := match cs with | [.int .i64 a0_1, .int .i64 a0_2, .int .i64 a0_3, .int .i64 a0_5, .int .i64 a0_6, .int .i64 a0_7, .int .i64 a0_8, .int .i64 a0_9, .int .i64 a0_10] => some (⟨a0_1, a0_2, a0_3, (⟨a0_5, a0_6, a0_7, a0_8, a0_9, a0_10⟩ : S_impl_Cmd)⟩ : S_impl_Entry) | _ => none
theorem dec_impl_Entry_cells (cs : List (D RT den)) (x : S_impl_Entry) (h : dec_impl_Entry cs = some x) : cellsR .impl_Entry x = cs := by
  unfold dec_impl_Entry at h
  split at h
  · cases h; rfl
  · cases h
def dec_impl_Mail (cs : List (D RT den)) : Option S_impl_Mail := match cs with | [.int .i64 a0_1, .int .i64 a0_2, .int .i64 a0_3, .int .i64 a0_4, .int .i64 a0_5, .int .i64 a0_6, .int .i64 a0_7, .bool a0_8, .rs za0_9 .impl_Entry na0_9 fa0_9] => some (⟨a0_1, a0_2, a0_3, a0_4, a0_5, a0_6, a0_7, a0_8, (⟨za0_9, na0_9, fa0_9⟩ : (Sl S_impl_Entry))⟩ : S_impl_Mail) | _ => none
theorem dec_impl_Mail_cells (cs : List (D RT den)) (x : S_impl_Mail) (h : dec_impl_Mail cs = some x) : cellsR .impl_Mail x = cs := by
  unfold dec_impl_Mail at h
  split at h
  · cases h; rfl
  · cases h
def decR : (τ : RT) → List (D RT den) → Option (den τ)
  | .i64, cs => dec_i64 cs
  | .u8, cs => dec_u8 cs
  | .impl_Entry, cs => dec_impl_Entry cs
  | .impl_Mail, cs => dec_impl_Mail cs

def sizeR : RT → Nat
  | .i64 => 1
  | .u8 => 1
  | .impl_Entry => 9
  | .impl_Mail => 9

def sclR : RT → Bool
  | .i64 => true
  | .u8 => true
  | .impl_Entry => true
  | .impl_Mail => false

def nilR : RT → Bool
  | .i64 => false
  | .u8 => false
  | .impl_Entry => false
  | .impl_Mail => false

def bytR : RT → Bool
  | .i64 => false
  | .u8 => true
  | .impl_Entry => false
  | .impl_Mail => false

def litR : RT → Bool
  | .i64 => false
  | .u8 => false
  | .impl_Entry => false
  | .impl_Mail => true

def rtl : List (Nat × RT) := [(2, .i64), (5, .u8), (45, .impl_Entry), (58, .impl_Mail)]
def zs : List (Nat × List (D RT den)) := [(2, [(.int .i64 0)]), (29, [(.int .i64 0), (.int .i64 0), (.int .i64 0), (.int .i64 0), (.emp true .impl_Entry), (.int .i64 0), (.int .i64 0), (.emp true .i64), (.emp true .i64), (.emp true .i64)]), (30, [(.emp true .impl_Mail)]), (32, [(.int .i64 0), (.int .i64 0), (.int .i64 0), (.int .i64 0), (.int .i64 0), (.emp true .impl_Entry), (.int .i64 0), (.int .i64 0), (.emp true .i64), (.emp true .i64), (.emp true .i64), (.emp true .impl_Mail)]), (43, [(.int .i64 0), (.int .i64 0), (.int .i64 0), (.int .i64 0), (.int .i64 0), (.int .i64 0)]), (45, [(.int .i64 0), (.int .i64 0), (.int .i64 0), (.int .i64 0), (.int .i64 0), (.int .i64 0), (.int .i64 0), (.int .i64 0), (.int .i64 0)]), (58, [(.int .i64 0), (.int .i64 0), (.int .i64 0), (.int .i64 0), (.int .i64 0), (.int .i64 0), (.int .i64 0), (.bool false), (.emp true .impl_Entry)]), (96, [(.emp true .u8), (.int .i64 0)])]
def tbl : List (Nat × TI) := [(2, ⟨1, 8, false, none, [], false, none, false, (some .i64), false⟩),
  (3, ⟨1, 8, false, none, [], false, none, false, (some .i64), false⟩),
  (4, ⟨1, 1, false, none, [], false, none, true, none, false⟩),
  (5, ⟨1, 1, false, none, [], false, none, false, (some .u8), false⟩),
  (23, ⟨1, 24, false, some 2, [], false, none, false, none, false⟩),
  (27, ⟨1, 24, false, some 45, [], false, none, false, none, false⟩),
  (29, ⟨10, 144, true, none, [(0, 2), (1, 2), (2, 2), (3, 2), (4, 27), (5, 2), (6, 2), (7, 23), (8, 23), (9, 23)], true, none, false, none, false⟩),
  (30, ⟨1, 24, false, some 58, [], false, none, false, none, false⟩),
  (32, ⟨12, 176, true, none, [(0, 2), (1, 29), (11, 30)], true, none, false, none, false⟩),
  (40, ⟨1, 24, false, some 5, [], false, none, false, none, false⟩),
  (43, ⟨6, 48, true, none, [(0, 2), (1, 2), (2, 2), (3, 2), (4, 2), (5, 2)], true, (some [true, true, true, true, true, true]), false, none, false⟩),
  (45, ⟨9, 72, true, none, [(0, 2), (1, 2), (2, 2), (3, 43)], true, (some [true, true, true, true, true, true, true, true, true]), false, none, false⟩),
  (58, ⟨9, 88, true, none, [(0, 2), (1, 2), (2, 2), (3, 2), (4, 2), (5, 2), (6, 2), (7, 4), (8, 27)], true, none, false, none, false⟩),
  (96, ⟨2, 32, true, none, [(0, 40), (1, 2)], true, none, false, none, false⟩),
  (105, ⟨1, 8, false, none, [], false, none, false, (some .u64), false⟩)]
noncomputable def fnT (f : Nat) : Option Func := match f with
  | 5 => some Try.f5
  | 9 => some Try.f9
  | 15 => some Try.f15
  | 16 => some Try.f16
  | 17 => some Try.f17
  | 18 => some Try.f18
  | 19 => some Try.f19
  | 20 => some Try.f20
  | 21 => some Try.f21
  | 22 => some Try.f22
  | 25 => some Try.f25
  | 26 => some Try.f26
  | 27 => some Try.f27
  | 31 => some Try.f31
  | 32 => some Try.f32
  | 33 => some Try.f33
  | 34 => some Try.f34
  | 35 => some Try.f35
  | 36 => some Try.f36
  | 37 => some Try.f37
  | 46 => some Try.f46
  | 47 => some Try.f47
  | 48 => some Try.f48
  | 49 => some Try.f49
  | 50 => some Try.f50
  | 51 => some Try.f51
  | 52 => some Try.f52
  | 53 => some Try.f53
  | 54 => some Try.f54
  | 55 => some Try.f55
  | 56 => some Try.f56
  | 57 => some Try.f57
  | 58 => some Try.f58
  | 59 => some Try.f59
  | 60 => some Try.f60
  | 61 => some Try.f61
  | 62 => some Try.f62
  | 63 => some Try.f63
  | 64 => some Try.f64
  | 65 => some Try.f65
  | 66 => some Try.f66
  | 67 => some Try.f67
  | 68 => some Try.f68
  | 69 => some Try.f69
  | 70 => some Try.f70
  | 71 => some Try.f71
  | 72 => some Try.f72
  | 73 => some Try.f73
  | 76 => some Try.f76
  | 81 => some Try.f81
  | 82 => some Try.f82
  | 83 => some Try.f83
  | 84 => some Try.f84
  | 85 => some Try.f85
  | 86 => some Try.f86
  | 87 => some Try.f87
  | 88 => some Try.f88
  | 89 => some Try.f89
  | 90 => some Try.f90
  | 93 => some Try.f93
  | 94 => some Try.f94
  | 95 => some Try.f95
  | 96 => some Try.f96
  | 97 => some Try.f97
  | 98 => some Try.f98
  | 99 => some Try.f99
  | 100 => some Try.f100
  | 101 => some Try.f101
  | 102 => some Try.f102
  | 103 => some Try.f103
  | 104 => some Try.f104
  | 105 => some Try.f105
  | 107 => some Try.f107
  | 108 => some Try.f108
  | 109 => some Try.f109
  | _ => none
def parT (f : Nat) : List Nat := []
def R : Vm.Rows RT den := ⟨fun t => rtl.lookup t, sizeR, cellsR, decR, (fun a b => decEq a b), dflt, fun t => zs.lookup t, sclR, nilR, bytR, litR⟩
noncomputable def E : Env RT den := envOf Try.prog tbl R zs fnT parT
theorem rows_ok : RowsOk R tbl where
  size := by intro τ x; cases τ <;> rfl
  dec := by
    intro τ cs x h
    cases τ
    · exact dec_i64_cells cs x h
    · exact dec_u8_cells cs x h
    · exact dec_impl_Entry_cells cs x h
    · exact dec_impl_Mail_cells cs x h
  pure := by intro τ x; cases τ <;> rfl
  scl := by intro τ h x; cases τ <;> first | rfl | cases h
  byt := by intro τ h x; cases τ <;> first | exact ⟨_, rfl⟩ | cases h
  rt := rt_of (by kernel_rfl)
theorem fn_ok : ∀ f g, fnT f = some g → Try.prog.funcs[f]? = some g := by
  intro f g h
  unfold fnT at h
  split at h <;> first | (cases h; kernel_rfl) | cases h
theorem E_ok : Ok E Try.prog := envOf_ok (by kernel_rfl) (by kernel_rfl) (by kernel_rfl) fn_ok rows_ok (by kernel_rfl)
def pcf0 : Nat → List (D RT den) → Option (Out RT den) := fun _ _ => none
def pcd0 : Nat → Bool := fun _ => false
def pcx0 : Nat → List (D RT den) → List (Ob RT den) → Option (OutX RT den) := fun _ _ _ => none
theorem hpc0 : ∀ f xs o, pcf0 f xs = some o → ∀ y, o.x = some y → Good E Try.prog f xs (o.g y) := by
  intro f xs o h
  cases h
theorem hpx0 : ∀ f xs ins o, pcx0 f xs ins = some o → ∀ y, o.x = some y → GoodXD E Try.prog (pcd0 f) f xs ins (o.g y).1 (o.g y).2 := by
  intro f xs ins o h
  cases h
def upd_impl_Entry_0_1 (f : Nat → S_impl_Entry) (j : Nat) (v0 : Int) : Nat → S_impl_Entry := fun i => if i = j then (⟨v0, (f j).Client, (f j).Seq, (f j).Cmd⟩ : S_impl_Entry) else f i
def upd_impl_Entry_1_1 (f : Nat → S_impl_Entry) (j : Nat) (v0 : Int) : Nat → S_impl_Entry := fun i => if i = j then (⟨(f j).Term, v0, (f j).Seq, (f j).Cmd⟩ : S_impl_Entry) else f i
def upd_impl_Entry_3_6 (f : Nat → S_impl_Entry) (j : Nat) (v0 : Int) (v1 : Int) (v2 : Int) (v3 : Int) (v4 : Int) (v5 : Int) : Nat → S_impl_Entry := fun i => if i = j then (⟨(f j).Term, (f j).Client, (f j).Seq, (⟨v0, v1, v2, v3, v4, v5⟩ : S_impl_Cmd)⟩ : S_impl_Entry) else f i
def enc_sl_impl_Entry_H (y : (Sl S_impl_Entry)) : D RT den × List (Ob RT den) := ((.os 0 y.n), [(.row false .impl_Entry y.n y.f)])
def out_sl_impl_Entry_H (d : D RT den) (os : List (Ob RT den)) : Option ((Sl S_impl_Entry)) := match d, os with | .rs za0_0 .impl_Entry na0_0 fa0_0, [] => some (⟨za0_0, na0_0, fa0_0⟩ : (Sl S_impl_Entry)) | _, _ => none
theorem out_sl_impl_Entry_H_enc (d : D RT den) (os : List (Ob RT den)) (y : (Sl S_impl_Entry)) (h : out_sl_impl_Entry_H d os = some y) : (unh 0 d).1 = (enc_sl_impl_Entry_H y).1 ∧ os ++ (unh 0 d).2 = (enc_sl_impl_Entry_H y).2 := by
  unfold out_sl_impl_Entry_H at h
  split at h
  · cases h; exact ⟨rfl, rfl⟩
  · cases h
def enc_sl_i64_H (y : (Sl Int)) : D RT den × List (Ob RT den) := ((.os 0 y.n), [(.row false .i64 y.n y.f)])
def out_sl_i64_H (d : D RT den) (os : List (Ob RT den)) : Option ((Sl Int)) := match d, os with | .rs za0_0 .i64 na0_0 fa0_0, [] => some (⟨za0_0, na0_0, fa0_0⟩ : (Sl Int)) | _, _ => none
theorem out_sl_i64_H_enc (d : D RT den) (os : List (Ob RT den)) (y : (Sl Int)) (h : out_sl_i64_H d os = some y) : (unh 0 d).1 = (enc_sl_i64_H y).1 ∧ os ++ (unh 0 d).2 = (enc_sl_i64_H y).2 := by
  unfold out_sl_i64_H at h
  split at h
  · cases h; exact ⟨rfl, rfl⟩
  · cases h
def enc_impl_Node_H (y : S_impl_Node) : D RT den × List (Ob RT den) := ((.agg [(.int .i64 y.Id), (.int .i64 y.Peers), (.int .i64 y.Term), (.int .i64 y.Voted), (.os 0 y.Log.n), (.int .i64 y.Role), (.int .i64 y.Commit), (.os 1 y.Votes.n), (.os 2 y.Next.n), (.os 3 y.Match.n)]), [(.row false .impl_Entry y.Log.n y.Log.f), (.row false .i64 y.Votes.n y.Votes.f), (.row false .i64 y.Next.n y.Next.f), (.row false .i64 y.Match.n y.Match.f)])
def out_impl_Node_H (d : D RT den) (os : List (Ob RT den)) : Option (S_impl_Node) := match d, os with | .agg [.int .i64 a0_1, .int .i64 a0_2, .int .i64 a0_3, .int .i64 a0_4, .rs za0_5 .impl_Entry na0_5 fa0_5, .int .i64 a0_6, .int .i64 a0_7, .rs za0_8 .i64 na0_8 fa0_8, .rs za0_9 .i64 na0_9 fa0_9, .rs za0_10 .i64 na0_10 fa0_10], [] => some (⟨a0_1, a0_2, a0_3, a0_4, (⟨za0_5, na0_5, fa0_5⟩ : (Sl S_impl_Entry)), a0_6, a0_7, (⟨za0_8, na0_8, fa0_8⟩ : (Sl Int)), (⟨za0_9, na0_9, fa0_9⟩ : (Sl Int)), (⟨za0_10, na0_10, fa0_10⟩ : (Sl Int))⟩ : S_impl_Node) | _, _ => none
theorem out_impl_Node_H_enc (d : D RT den) (os : List (Ob RT den)) (y : S_impl_Node) (h : out_impl_Node_H d os = some y) : (unh 0 d).1 = (enc_impl_Node_H y).1 ∧ os ++ (unh 0 d).2 = (enc_impl_Node_H y).2 := by
  unfold out_impl_Node_H at h
  split at h
  · cases h; exact ⟨rfl, rfl⟩
  · cases h
def enc_bo (y : Bool) : D RT den := (.bool y)
def out_bo (d : D RT den) : Option (Bool) := match d with | .bool a0_0 => some a0_0 | _ => none
theorem out_bo_enc (d : D RT den) (y : Bool) (h : out_bo d = some y) : d = enc_bo y := by
  unfold out_bo at h
  split at h
  · cases h; rfl
  · cases h
def enc_u64_u64 (y : Int × Int) : D RT den := (.tup [(.int .u64 y.1), (.int .u64 y.2)])
def out_u64_u64 (d : D RT den) : Option (Int × Int) := match d with | .tup [.int .u64 a0_0, .int .u64 a1_0] => some (a0_0, a1_0) | _ => none
theorem out_u64_u64_enc (d : D RT den) (y : Int × Int) (h : out_u64_u64 d = some y) : d = enc_u64_u64 y := by
  unfold out_u64_u64 at h
  split at h
  · cases h; rfl
  · cases h
def enc_i64 (y : Int) : D RT den := (.int .i64 y)
def out_i64 (d : D RT den) : Option (Int) := match d with | .int .i64 a0_0 => some a0_0 | _ => none
theorem out_i64_enc (d : D RT den) (y : Int) (h : out_i64 d = some y) : d = enc_i64 y := by
  unfold out_i64 at h
  split at h
  · cases h; rfl
  · cases h
def enc_bo_bo_bo_bo (y : Bool × Bool × Bool × Bool) : D RT den := (.tup [(.bool y.1), (.bool y.2.1), (.bool y.2.2.1), (.bool y.2.2.2)])
def out_bo_bo_bo_bo (d : D RT den) : Option (Bool × Bool × Bool × Bool) := match d with | .tup [.bool a0_0, .bool a1_0, .bool a2_0, .bool a3_0] => some (a0_0, a1_0, a2_0, a3_0) | _ => none
theorem out_bo_bo_bo_bo_enc (d : D RT den) (y : Bool × Bool × Bool × Bool) (h : out_bo_bo_bo_bo d = some y) : d = enc_bo_bo_bo_bo y := by
  unfold out_bo_bo_bo_bo at h
  split at h
  · cases h; rfl
  · cases h
def enc_impl_Entry (y : S_impl_Entry) : D RT den := (.agg [(.int .i64 y.Term), (.int .i64 y.Client), (.int .i64 y.Seq), (.int .i64 y.Cmd.Kind), (.int .i64 y.Cmd.Expect), (.int .i64 y.Cmd.Name), (.int .i64 y.Cmd.Addr), (.int .i64 y.Cmd.Number), (.int .i64 y.Cmd.Proto)])
def out_impl_Entry (d : D RT den) : Option (S_impl_Entry) := match d with | .agg [.int .i64 a0_1, .int .i64 a0_2, .int .i64 a0_3, .int .i64 a0_5, .int .i64 a0_6, .int .i64 a0_7, .int .i64 a0_8, .int .i64 a0_9, .int .i64 a0_10] => some (⟨a0_1, a0_2, a0_3, (⟨a0_5, a0_6, a0_7, a0_8, a0_9, a0_10⟩ : S_impl_Cmd)⟩ : S_impl_Entry) | _ => none
theorem out_impl_Entry_enc (d : D RT den) (y : S_impl_Entry) (h : out_impl_Entry d = some y) : d = enc_impl_Entry y := by
  unfold out_impl_Entry at h
  split at h
  · cases h; rfl
  · cases h
def enc_impl_Node_impl_Entry (y : S_impl_Node × S_impl_Entry) : D RT den := (.tup [(.agg [(.int .i64 y.1.Id), (.int .i64 y.1.Peers), (.int .i64 y.1.Term), (.int .i64 y.1.Voted), (.rs y.1.Log.z .impl_Entry y.1.Log.n y.1.Log.f), (.int .i64 y.1.Role), (.int .i64 y.1.Commit), (.rs y.1.Votes.z .i64 y.1.Votes.n y.1.Votes.f), (.rs y.1.Next.z .i64 y.1.Next.n y.1.Next.f), (.rs y.1.Match.z .i64 y.1.Match.n y.1.Match.f)]), (.agg [(.int .i64 y.2.Term), (.int .i64 y.2.Client), (.int .i64 y.2.Seq), (.int .i64 y.2.Cmd.Kind), (.int .i64 y.2.Cmd.Expect), (.int .i64 y.2.Cmd.Name), (.int .i64 y.2.Cmd.Addr), (.int .i64 y.2.Cmd.Number), (.int .i64 y.2.Cmd.Proto)])])
def out_impl_Node_impl_Entry (d : D RT den) : Option (S_impl_Node × S_impl_Entry) := match d with | .tup [.agg [.int .i64 a0_1, .int .i64 a0_2, .int .i64 a0_3, .int .i64 a0_4, .rs za0_5 .impl_Entry na0_5 fa0_5, .int .i64 a0_6, .int .i64 a0_7, .rs za0_8 .i64 na0_8 fa0_8, .rs za0_9 .i64 na0_9 fa0_9, .rs za0_10 .i64 na0_10 fa0_10], .agg [.int .i64 a1_1, .int .i64 a1_2, .int .i64 a1_3, .int .i64 a1_5, .int .i64 a1_6, .int .i64 a1_7, .int .i64 a1_8, .int .i64 a1_9, .int .i64 a1_10]] => some ((⟨a0_1, a0_2, a0_3, a0_4, (⟨za0_5, na0_5, fa0_5⟩ : (Sl S_impl_Entry)), a0_6, a0_7, (⟨za0_8, na0_8, fa0_8⟩ : (Sl Int)), (⟨za0_9, na0_9, fa0_9⟩ : (Sl Int)), (⟨za0_10, na0_10, fa0_10⟩ : (Sl Int))⟩ : S_impl_Node), (⟨a1_1, a1_2, a1_3, (⟨a1_5, a1_6, a1_7, a1_8, a1_9, a1_10⟩ : S_impl_Cmd)⟩ : S_impl_Entry)) | _ => none
theorem out_impl_Node_impl_Entry_enc (d : D RT den) (y : S_impl_Node × S_impl_Entry) (h : out_impl_Node_impl_Entry d = some y) : d = enc_impl_Node_impl_Entry y := by
  unfold out_impl_Node_impl_Entry at h
  split at h
  · cases h; rfl
  · cases h
end Go.Proofs.Ytjdgfkmiaikegaa.Pe
