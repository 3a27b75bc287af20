/- The tables of the program's types for the value machine. Conditions: none. -/
import Derived.Test.YthbimpgiafhfoaaVmO
import Derived.Test.YthbimpgiafhfoaaProg
import Derived.KernelRfl
namespace Go.Proofs.Ythbimpgiafhfoaa.Pc
open Go Go.RowKit Go.Proofs Vm
set_option linter.unusedVariables false
set_option linter.unusedSimpArgs false
set_option maxRecDepth 100000
structure S_impl_Backend where
  Name : Int
  Address : Int
  Weight : Int
  Stage : Int
  Up : Bool
structure S_impl_Vip where
  Address : Int
  Port : Int
  Proto : Int
  Names : (Sl Int)
structure S_laws_Config where
  Version : Int
  Backends : (Sl S_impl_Backend)
  Vips : (Sl S_impl_Vip)
structure S_impl_Session where
  Client : Int
  Seq : Int
  Code : Int
structure S_laws_Machine where
  Config : S_laws_Config
  Sessions : (Sl S_impl_Session)
structure S_impl_Cmd where
  Kind : Int
  Expect : Int
  Name : Int
  Addr : Int
  Number : Int
  Proto : Int
structure S_laws_Update where
  From : Int
  To : Int
  Full : Bool
  Config : S_laws_Config
  Cmds : (Sl S_impl_Cmd)
structure S_impl_Config where
  Version : Int
  Backends : (Sl S_impl_Backend)
  Vips : (Sl S_impl_Vip)
structure S_impl_Machine where
  Config : S_impl_Config
  Sessions : (Sl S_impl_Session)
structure S_impl_Update where
  From : Int
  To : Int
  Full : Bool
  Config : S_impl_Config
  Cmds : (Sl S_impl_Cmd)
structure S_impl_IntResult where
  Code : Int
  Value : Int
inductive RT where
  | i64
  | impl_Backend
  | impl_Vip
  | impl_Session
  | impl_Cmd

def RT.no : RT → Nat
  | .i64 => 0
  | .impl_Backend => 1
  | .impl_Vip => 2
  | .impl_Session => 3
  | .impl_Cmd => 4

instance : DecidableEq RT := fun a b => if h : a.no = b.no then isTrue (by cases a <;> cases b <;> first | rfl | (cases h)) else isFalse (fun e => h (by rw [e]))
def den : RT → Type
  | .i64 => Int
  | .impl_Backend => S_impl_Backend
  | .impl_Vip => S_impl_Vip
  | .impl_Session => S_impl_Session
  | .impl_Cmd => S_impl_Cmd

def W_i64 (n : Int) : Prop := (Lit.int .i64 n).wf = true
def W_bo (b : Bool) : Prop := True
def W_impl_Backend (x : S_impl_Backend) : Prop := W_i64 x.Name ∧ W_i64 x.Address ∧ W_i64 x.Weight ∧ W_i64 x.Stage ∧ W_bo x.Up
def W_sl_impl_Backend (x : (Sl S_impl_Backend)) : Prop := x.n ≤ maxLen ∧ ∀ i, i < x.n → W_impl_Backend (x.f i)
def W_sl_i64 (x : (Sl Int)) : Prop := x.n ≤ maxLen ∧ ∀ i, i < x.n → W_i64 (x.f i)
def W_impl_Vip (x : S_impl_Vip) : Prop := W_i64 x.Address ∧ W_i64 x.Port ∧ W_i64 x.Proto ∧ W_sl_i64 x.Names
def W_sl_impl_Vip (x : (Sl S_impl_Vip)) : Prop := x.n ≤ maxLen ∧ ∀ i, i < x.n → W_impl_Vip (x.f i)
def W_laws_Config (x : S_laws_Config) : Prop := W_i64 x.Version ∧ W_sl_impl_Backend x.Backends ∧ W_sl_impl_Vip x.Vips
def W_impl_Session (x : S_impl_Session) : Prop := W_i64 x.Client ∧ W_i64 x.Seq ∧ W_i64 x.Code
def W_sl_impl_Session (x : (Sl S_impl_Session)) : Prop := x.n ≤ maxLen ∧ ∀ i, i < x.n → W_impl_Session (x.f i)
def W_laws_Machine (x : S_laws_Machine) : Prop := W_laws_Config x.Config ∧ W_sl_impl_Session x.Sessions
def W_impl_Cmd (x : S_impl_Cmd) : Prop := W_i64 x.Kind ∧ W_i64 x.Expect ∧ W_i64 x.Name ∧ W_i64 x.Addr ∧ W_i64 x.Number ∧ W_i64 x.Proto
def W_sl_impl_Cmd (x : (Sl S_impl_Cmd)) : Prop := x.n ≤ maxLen ∧ ∀ i, i < x.n → W_impl_Cmd (x.f i)
def W_laws_Update (x : S_laws_Update) : Prop := W_i64 x.From ∧ W_i64 x.To ∧ W_bo x.Full ∧ W_laws_Config x.Config ∧ W_sl_impl_Cmd x.Cmds
def dflt : (τ : RT) → den τ
  | .i64 => (0 : Int)
  | .impl_Backend => (⟨0, 0, 0, 0, false⟩ : S_impl_Backend)
  | .impl_Vip => (⟨0, 0, 0, ⟨some true, 0, fun _ => 0⟩⟩ : S_impl_Vip)
  | .impl_Session => (⟨0, 0, 0⟩ : S_impl_Session)
  | .impl_Cmd => (⟨0, 0, 0, 0, 0, 0⟩ : S_impl_Cmd)

def cellsR : (τ : RT) → den τ → List (D RT den)
  | .i64, (x : Int) => [(.int .i64 x)]
  | .impl_Backend, (x : S_impl_Backend) => [(.int .i64 x.Name), (.int .i64 x.Address), (.int .i64 x.Weight), (.int .i64 x.Stage), (.bool x.Up)]
  | .impl_Vip, (x : S_impl_Vip) => [(.int .i64 x.Address), (.int .i64 x.Port), (.int .i64 x.Proto), (.rs x.Names.z .i64 x.Names.n x.Names.f)]
  | .impl_Session, (x : S_impl_Session) => [(.int .i64 x.Client), (.int .i64 x.Seq), (.int .i64 x.Code)]
  | .impl_Cmd, (x : S_impl_Cmd) => [(.int .i64 x.Kind), (.int .i64 x.Expect), (.int .i64 x.Name), (.int .i64 x.Addr), (.int .i64 x.Number), (.int .i64 x.Proto)]

def dec_i64 (cs : List (D RT den)) : Option Int := match cs with | [.int .i64 a0_0] => some a0_0 | _ => none
theorem dec_i64_cells (cs : List (D RT den)) (x : Int) (h : dec_i64 cs = some x) : cellsR .i64 x = cs := by
  unfold dec_i64 at h
  split at h
  · cases h; rfl
  · cases h
def dec_impl_Backend (cs : List (D RT den)) : Option S_impl_Backend := match cs with | [.int .i64 a0_1, .int .i64 a0_2, .int .i64 a0_3, .int .i64 a0_4, .bool a0_5] => some (⟨a0_1, a0_2, a0_3, a0_4, a0_5⟩ : S_impl_Backend) | _ => none
theorem dec_impl_Backend_cells (cs : List (D RT den)) (x : S_impl_Backend) (h : dec_impl_Backend cs = some x) : cellsR .impl_Backend x = cs := by
  unfold dec_impl_Backend at h
  split at h
  · cases h; rfl
  · cases h
def dec_impl_Vip (cs : List (D RT den)) : Option S_impl_Vip := match cs with | [.int .i64 a0_1, .int .i64 a0_2, .int .i64 a0_3, .rs za0_4 .i64 na0_4 fa0_4] => some (⟨a0_1, a0_2, a0_3, (⟨za0_4, na0_4, fa0_4⟩ : (Sl Int))⟩ : S_impl_Vip) | _ => none
theorem dec_impl_Vip_cells (cs : List (D RT den)) (x : S_impl_Vip) (h : dec_impl_Vip cs = some x) : cellsR .impl_Vip x = cs := by
  unfold dec_impl_Vip at h
  split at h
  · cases h; rfl
  · cases h
def dec_impl_Session (cs : List (D RT den)) : Option S_impl_Session := match cs with | [.int .i64 a0_1, .int .i64 a0_2, .int .i64 a0_3] => some (⟨a0_1, a0_2, a0_3⟩ : S_impl_Session) | _ => none
theorem dec_impl_Session_cells (cs : List (D RT den)) (x : S_impl_Session) (h : dec_impl_Session cs = some x) : cellsR .impl_Session x = cs := by
  unfold dec_impl_Session at h
  split at h
  · cases h; rfl
  · cases h
def dec_impl_Cmd (cs : List (D RT den)) : Option S_impl_Cmd := match cs with | [.int .i64 a0_1, .int .i64 a0_2, .int .i64 a0_3, .int .i64 a0_4, .int .i64 a0_5, .int .i64 a0_6] => some (⟨a0_1, a0_2, a0_3, a0_4, a0_5, a0_6⟩ : S_impl_Cmd) | _ => none
theorem dec_impl_Cmd_cells (cs : List (D RT den)) (x : S_impl_Cmd) (h : dec_impl_Cmd cs = some x) : cellsR .impl_Cmd x = cs := by
  unfold dec_impl_Cmd at h
  split at h
  · cases h; rfl
  · cases h
def decR : (τ : RT) → List (D RT den) → Option (den τ)
  | .i64, cs => dec_i64 cs
  | .impl_Backend, cs => dec_impl_Backend cs
  | .impl_Vip, cs => dec_impl_Vip cs
  | .impl_Session, cs => dec_impl_Session cs
  | .impl_Cmd, cs => dec_impl_Cmd cs

def sizeR : RT → Nat
  | .i64 => 1
  | .impl_Backend => 5
  | .impl_Vip => 4
  | .impl_Session => 3
  | .impl_Cmd => 6

def rtl : List (Nat × RT) := [(2, .i64), (3, .i64), (90, .impl_Session), (103, .impl_Cmd), (121, .impl_Backend), (140, .impl_Vip), (151, .impl_Session), (163, .impl_Cmd), (166, .impl_Vip), (168, .impl_Backend)]
def zs : List (Nat × List (D RT den)) := [(2, [(.int .i64 0)]), (3, [(.int .i64 0)]), (34, [(.int .i64 0), (.emp true .impl_Backend), (.emp true .impl_Vip)]), (37, [(.int .i64 0), (.emp true .impl_Backend), (.emp true .impl_Vip), (.emp true .impl_Session)]), (42, [(.int .i64 0), (.int .i64 0)]), (53, [(.int .i64 0), (.int .i64 0), (.bool false), (.int .i64 0), (.emp true .impl_Backend), (.emp true .impl_Vip), (.emp true .impl_Cmd)]), (90, [(.int .i64 0), (.int .i64 0), (.int .i64 0)]), (103, [(.int .i64 0), (.int .i64 0), (.int .i64 0), (.int .i64 0), (.int .i64 0), (.int .i64 0)]), (121, [(.int .i64 0), (.int .i64 0), (.int .i64 0), (.int .i64 0), (.bool false)]), (140, [(.int .i64 0), (.int .i64 0), (.int .i64 0), (.emp true .i64)])]
def tbl : List (Nat × TI) := [(2, ⟨1, 8, false, none, [], false, none, false, none⟩),
  (3, ⟨1, 8, false, none, [], false, none, false, (some .i64)⟩),
  (4, ⟨1, 1, false, none, [], false, none, true, none⟩),
  (22, ⟨1, 24, false, some 168, [], false, none, false, none⟩),
  (23, ⟨1, 24, false, some 166, [], false, none, false, none⟩),
  (25, ⟨3, 56, true, none, [(0, 2), (1, 22), (2, 23)], false, none, false, none⟩),
  (26, ⟨1, 24, false, some 151, [], false, none, false, none⟩),
  (28, ⟨4, 80, true, none, [(0, 25), (3, 26)], false, none, false, none⟩),
  (31, ⟨1, 24, false, some 121, [], false, none, false, none⟩),
  (32, ⟨1, 24, false, some 140, [], false, none, false, none⟩),
  (34, ⟨3, 56, true, none, [(0, 2), (1, 31), (2, 32)], false, none, false, none⟩),
  (35, ⟨1, 24, false, some 90, [], false, none, false, none⟩),
  (37, ⟨4, 80, true, none, [(0, 34), (3, 35)], false, none, false, none⟩),
  (42, ⟨2, 16, true, none, [(0, 2), (1, 2)], true, none, false, none⟩),
  (46, ⟨1, 24, false, some 163, [], false, none, false, none⟩),
  (48, ⟨7, 104, true, none, [(0, 2), (1, 2), (2, 4), (3, 25), (6, 46)], false, none, false, none⟩),
  (51, ⟨1, 24, false, some 103, [], false, none, false, none⟩),
  (53, ⟨7, 104, true, none, [(0, 2), (1, 2), (2, 4), (3, 34), (6, 51)], false, none, false, none⟩),
  (90, ⟨3, 24, true, none, [(0, 2), (1, 2), (2, 2)], false, none, false, none⟩),
  (103, ⟨6, 48, true, none, [(0, 2), (1, 2), (2, 2), (3, 2), (4, 2), (5, 2)], false, none, false, none⟩),
  (121, ⟨5, 40, true, none, [(0, 2), (1, 2), (2, 2), (3, 2), (4, 4)], false, none, false, none⟩),
  (138, ⟨1, 24, false, some 2, [], false, none, false, none⟩),
  (140, ⟨4, 48, true, none, [(0, 2), (1, 2), (2, 2), (3, 138)], false, none, false, none⟩),
  (151, ⟨3, 24, true, none, [(0, 2), (1, 2), (2, 2)], false, none, false, none⟩),
  (163, ⟨6, 48, true, none, [(0, 2), (1, 2), (2, 2), (3, 2), (4, 2), (5, 2)], false, none, false, none⟩),
  (166, ⟨4, 48, true, none, [(0, 2), (1, 2), (2, 2), (3, 138)], false, none, false, none⟩),
  (168, ⟨5, 40, true, none, [(0, 2), (1, 2), (2, 2), (3, 2), (4, 4)], false, none, false, none⟩),
  (183, ⟨1, 8, false, none, [], false, none, false, (some .u64)⟩),
  (192, ⟨1, 24, false, some 3, [], false, none, false, none⟩)]
noncomputable def fnT (f : Nat) : Option Func := match f with
  | 3 => some Try.f3
  | 4 => some Try.f4
  | 5 => some Try.f5
  | 9 => some Try.f9
  | 10 => some Try.f10
  | 11 => some Try.f11
  | 12 => some Try.f12
  | 13 => some Try.f13
  | 14 => some Try.f14
  | 15 => some Try.f15
  | 16 => some Try.f16
  | 17 => some Try.f17
  | 18 => some Try.f18
  | 19 => some Try.f19
  | 20 => some Try.f20
  | 21 => some Try.f21
  | 22 => some Try.f22
  | 24 => some Try.f24
  | 27 => some Try.f27
  | 44 => some Try.f44
  | 45 => some Try.f45
  | 46 => some Try.f46
  | 47 => some Try.f47
  | 48 => some Try.f48
  | 49 => some Try.f49
  | 50 => some Try.f50
  | 51 => some Try.f51
  | 52 => some Try.f52
  | 53 => some Try.f53
  | 54 => some Try.f54
  | 55 => some Try.f55
  | 56 => some Try.f56
  | 57 => some Try.f57
  | 58 => some Try.f58
  | 59 => some Try.f59
  | 60 => some Try.f60
  | 61 => some Try.f61
  | 62 => some Try.f62
  | 63 => some Try.f63
  | 64 => some Try.f64
  | 66 => some Try.f66
  | 67 => some Try.f67
  | 69 => some Try.f69
  | 70 => some Try.f70
  | 76 => some Try.f76
  | 87 => some Try.f87
  | 90 => some Try.f90
  | 93 => some Try.f93
  | 98 => some Try.f98
  | 99 => some Try.f99
  | 100 => some Try.f100
  | 101 => some Try.f101
  | 102 => some Try.f102
  | 103 => some Try.f103
  | 104 => some Try.f104
  | 105 => some Try.f105
  | 106 => some Try.f106
  | 107 => some Try.f107
  | 108 => some Try.f108
  | 109 => some Try.f109
  | 110 => some Try.f110
  | 111 => some Try.f111
  | 112 => some Try.f112
  | 113 => some Try.f113
  | 114 => some Try.f114
  | 115 => some Try.f115
  | 116 => some Try.f116
  | 117 => some Try.f117
  | 118 => some Try.f118
  | 119 => some Try.f119
  | 120 => some Try.f120
  | 121 => some Try.f121
  | 123 => some Try.f123
  | 124 => some Try.f124
  | 136 => some Try.f136
  | 139 => some Try.f139
  | 140 => some Try.f140
  | 141 => some Try.f141
  | 142 => some Try.f142
  | 143 => some Try.f143
  | 144 => some Try.f144
  | 145 => some Try.f145
  | 146 => some Try.f146
  | 147 => some Try.f147
  | 148 => some Try.f148
  | 152 => some Try.f152
  | _ => none
def parT (f : Nat) : List Nat := []
def R : Vm.Rows RT den := ⟨fun t => rtl.lookup t, sizeR, cellsR, decR, dflt, fun t => zs.lookup t⟩
noncomputable def E : Env RT den := envOf Try.prog tbl R zs fnT parT
theorem rows_ok : RowsOk R tbl where
  size := by intro τ x; cases τ <;> rfl
  dec := by
    intro τ cs x h
    cases τ
    · exact dec_i64_cells cs x h
    · exact dec_impl_Backend_cells cs x h
    · exact dec_impl_Vip_cells cs x h
    · exact dec_impl_Session_cells cs x h
    · exact dec_impl_Cmd_cells cs x h
  pure := by intro τ x; cases τ <;> rfl
  rt := rt_of (by kernel_rfl)
theorem fn_ok : ∀ f g, fnT f = some g → Try.prog.funcs[f]? = some g := by
  intro f g h
  unfold fnT at h
  split at h <;> first | (cases h; kernel_rfl) | cases h
theorem E_ok : Ok E Try.prog := envOf_ok (by kernel_rfl) (by kernel_rfl) (by kernel_rfl) fn_ok rows_ok (by kernel_rfl)
def enc_i64 (y : Int) : D RT den := (.int .i64 y)
def out_i64 (d : D RT den) : Option (Int) := match d with | .int .i64 a0_0 => some a0_0 | _ => none
theorem out_i64_enc (d : D RT den) (y : Int) (h : out_i64 d = some y) : d = enc_i64 y := by
  unfold out_i64 at h
  split at h
  · cases h; rfl
  · cases h
def enc_impl_Backend (y : S_impl_Backend) : D RT den := (.agg [(.int .i64 y.Name), (.int .i64 y.Address), (.int .i64 y.Weight), (.int .i64 y.Stage), (.bool y.Up)])
def out_impl_Backend (d : D RT den) : Option (S_impl_Backend) := match d with | .agg [.int .i64 a0_1, .int .i64 a0_2, .int .i64 a0_3, .int .i64 a0_4, .bool a0_5] => some (⟨a0_1, a0_2, a0_3, a0_4, a0_5⟩ : S_impl_Backend) | _ => none
theorem out_impl_Backend_enc (d : D RT den) (y : S_impl_Backend) (h : out_impl_Backend d = some y) : d = enc_impl_Backend y := by
  unfold out_impl_Backend at h
  split at h
  · cases h; rfl
  · cases h
def enc_sl_impl_Backend (y : (Sl S_impl_Backend)) : D RT den := (.rs y.z .impl_Backend y.n y.f)
def out_sl_impl_Backend (d : D RT den) : Option ((Sl S_impl_Backend)) := match d with | .rs za0_0 .impl_Backend na0_0 fa0_0 => some (⟨za0_0, na0_0, fa0_0⟩ : (Sl S_impl_Backend)) | _ => none
theorem out_sl_impl_Backend_enc (d : D RT den) (y : (Sl S_impl_Backend)) (h : out_sl_impl_Backend d = some y) : d = enc_sl_impl_Backend y := by
  unfold out_sl_impl_Backend at h
  split at h
  · cases h; rfl
  · cases h
def enc_sl_i64 (y : (Sl Int)) : D RT den := (.rs y.z .i64 y.n y.f)
def out_sl_i64 (d : D RT den) : Option ((Sl Int)) := match d with | .rs za0_0 .i64 na0_0 fa0_0 => some (⟨za0_0, na0_0, fa0_0⟩ : (Sl Int)) | _ => none
theorem out_sl_i64_enc (d : D RT den) (y : (Sl Int)) (h : out_sl_i64 d = some y) : d = enc_sl_i64 y := by
  unfold out_sl_i64 at h
  split at h
  · cases h; rfl
  · cases h
def enc_impl_Vip (y : S_impl_Vip) : D RT den := (.agg [(.int .i64 y.Address), (.int .i64 y.Port), (.int .i64 y.Proto), (.rs y.Names.z .i64 y.Names.n y.Names.f)])
def out_impl_Vip (d : D RT den) : Option (S_impl_Vip) := match d with | .agg [.int .i64 a0_1, .int .i64 a0_2, .int .i64 a0_3, .rs za0_4 .i64 na0_4 fa0_4] => some (⟨a0_1, a0_2, a0_3, (⟨za0_4, na0_4, fa0_4⟩ : (Sl Int))⟩ : S_impl_Vip) | _ => none
theorem out_impl_Vip_enc (d : D RT den) (y : S_impl_Vip) (h : out_impl_Vip d = some y) : d = enc_impl_Vip y := by
  unfold out_impl_Vip at h
  split at h
  · cases h; rfl
  · cases h
def enc_sl_impl_Vip (y : (Sl S_impl_Vip)) : D RT den := (.rs y.z .impl_Vip y.n y.f)
def out_sl_impl_Vip (d : D RT den) : Option ((Sl S_impl_Vip)) := match d with | .rs za0_0 .impl_Vip na0_0 fa0_0 => some (⟨za0_0, na0_0, fa0_0⟩ : (Sl S_impl_Vip)) | _ => none
theorem out_sl_impl_Vip_enc (d : D RT den) (y : (Sl S_impl_Vip)) (h : out_sl_impl_Vip d = some y) : d = enc_sl_impl_Vip y := by
  unfold out_sl_impl_Vip at h
  split at h
  · cases h; rfl
  · cases h
def enc_impl_Config (y : S_impl_Config) : D RT den := (.agg [(.int .i64 y.Version), (.rs y.Backends.z .impl_Backend y.Backends.n y.Backends.f), (.rs y.Vips.z .impl_Vip y.Vips.n y.Vips.f)])
def out_impl_Config (d : D RT den) : Option (S_impl_Config) := match d with | .agg [.int .i64 a0_1, .rs za0_2 .impl_Backend na0_2 fa0_2, .rs za0_3 .impl_Vip na0_3 fa0_3] => some (⟨a0_1, (⟨za0_2, na0_2, fa0_2⟩ : (Sl S_impl_Backend)), (⟨za0_3, na0_3, fa0_3⟩ : (Sl S_impl_Vip))⟩ : S_impl_Config) | _ => none
theorem out_impl_Config_enc (d : D RT den) (y : S_impl_Config) (h : out_impl_Config d = some y) : d = enc_impl_Config y := by
  unfold out_impl_Config at h
  split at h
  · cases h; rfl
  · cases h
def enc_impl_Session (y : S_impl_Session) : D RT den := (.agg [(.int .i64 y.Client), (.int .i64 y.Seq), (.int .i64 y.Code)])
def out_impl_Session (d : D RT den) : Option (S_impl_Session) := match d with | .agg [.int .i64 a0_1, .int .i64 a0_2, .int .i64 a0_3] => some (⟨a0_1, a0_2, a0_3⟩ : S_impl_Session) | _ => none
theorem out_impl_Session_enc (d : D RT den) (y : S_impl_Session) (h : out_impl_Session d = some y) : d = enc_impl_Session y := by
  unfold out_impl_Session at h
  split at h
  · cases h; rfl
  · cases h
def enc_sl_impl_Session (y : (Sl S_impl_Session)) : D RT den := (.rs y.z .impl_Session y.n y.f)
def out_sl_impl_Session (d : D RT den) : Option ((Sl S_impl_Session)) := match d with | .rs za0_0 .impl_Session na0_0 fa0_0 => some (⟨za0_0, na0_0, fa0_0⟩ : (Sl S_impl_Session)) | _ => none
theorem out_sl_impl_Session_enc (d : D RT den) (y : (Sl S_impl_Session)) (h : out_sl_impl_Session d = some y) : d = enc_sl_impl_Session y := by
  unfold out_sl_impl_Session at h
  split at h
  · cases h; rfl
  · cases h
def enc_impl_Machine (y : S_impl_Machine) : D RT den := (.agg [(.int .i64 y.Config.Version), (.rs y.Config.Backends.z .impl_Backend y.Config.Backends.n y.Config.Backends.f), (.rs y.Config.Vips.z .impl_Vip y.Config.Vips.n y.Config.Vips.f), (.rs y.Sessions.z .impl_Session y.Sessions.n y.Sessions.f)])
def out_impl_Machine (d : D RT den) : Option (S_impl_Machine) := match d with | .agg [.int .i64 a0_2, .rs za0_3 .impl_Backend na0_3 fa0_3, .rs za0_4 .impl_Vip na0_4 fa0_4, .rs za0_5 .impl_Session na0_5 fa0_5] => some (⟨(⟨a0_2, (⟨za0_3, na0_3, fa0_3⟩ : (Sl S_impl_Backend)), (⟨za0_4, na0_4, fa0_4⟩ : (Sl S_impl_Vip))⟩ : S_impl_Config), (⟨za0_5, na0_5, fa0_5⟩ : (Sl S_impl_Session))⟩ : S_impl_Machine) | _ => none
theorem out_impl_Machine_enc (d : D RT den) (y : S_impl_Machine) (h : out_impl_Machine d = some y) : d = enc_impl_Machine y := by
  unfold out_impl_Machine at h
  split at h
  · cases h; rfl
  · cases h
def enc_bo (y : Bool) : D RT den := (.bool y)
def out_bo (d : D RT den) : Option (Bool) := match d with | .bool a0_0 => some a0_0 | _ => none
theorem out_bo_enc (d : D RT den) (y : Bool) (h : out_bo d = some y) : d = enc_bo y := by
  unfold out_bo at h
  split at h
  · cases h; rfl
  · cases h
def enc_impl_Cmd (y : S_impl_Cmd) : D RT den := (.agg [(.int .i64 y.Kind), (.int .i64 y.Expect), (.int .i64 y.Name), (.int .i64 y.Addr), (.int .i64 y.Number), (.int .i64 y.Proto)])
def out_impl_Cmd (d : D RT den) : Option (S_impl_Cmd) := match d with | .agg [.int .i64 a0_1, .int .i64 a0_2, .int .i64 a0_3, .int .i64 a0_4, .int .i64 a0_5, .int .i64 a0_6] => some (⟨a0_1, a0_2, a0_3, a0_4, a0_5, a0_6⟩ : S_impl_Cmd) | _ => none
theorem out_impl_Cmd_enc (d : D RT den) (y : S_impl_Cmd) (h : out_impl_Cmd d = some y) : d = enc_impl_Cmd y := by
  unfold out_impl_Cmd at h
  split at h
  · cases h; rfl
  · cases h
def enc_sl_impl_Cmd (y : (Sl S_impl_Cmd)) : D RT den := (.rs y.z .impl_Cmd y.n y.f)
def out_sl_impl_Cmd (d : D RT den) : Option ((Sl S_impl_Cmd)) := match d with | .rs za0_0 .impl_Cmd na0_0 fa0_0 => some (⟨za0_0, na0_0, fa0_0⟩ : (Sl S_impl_Cmd)) | _ => none
theorem out_sl_impl_Cmd_enc (d : D RT den) (y : (Sl S_impl_Cmd)) (h : out_sl_impl_Cmd d = some y) : d = enc_sl_impl_Cmd y := by
  unfold out_sl_impl_Cmd at h
  split at h
  · cases h; rfl
  · cases h
def enc_impl_Update (y : S_impl_Update) : D RT den := (.agg [(.int .i64 y.From), (.int .i64 y.To), (.bool y.Full), (.int .i64 y.Config.Version), (.rs y.Config.Backends.z .impl_Backend y.Config.Backends.n y.Config.Backends.f), (.rs y.Config.Vips.z .impl_Vip y.Config.Vips.n y.Config.Vips.f), (.rs y.Cmds.z .impl_Cmd y.Cmds.n y.Cmds.f)])
def out_impl_Update (d : D RT den) : Option (S_impl_Update) := match d with | .agg [.int .i64 a0_1, .int .i64 a0_2, .bool a0_3, .int .i64 a0_5, .rs za0_6 .impl_Backend na0_6 fa0_6, .rs za0_7 .impl_Vip na0_7 fa0_7, .rs za0_8 .impl_Cmd na0_8 fa0_8] => some (⟨a0_1, a0_2, a0_3, (⟨a0_5, (⟨za0_6, na0_6, fa0_6⟩ : (Sl S_impl_Backend)), (⟨za0_7, na0_7, fa0_7⟩ : (Sl S_impl_Vip))⟩ : S_impl_Config), (⟨za0_8, na0_8, fa0_8⟩ : (Sl S_impl_Cmd))⟩ : S_impl_Update) | _ => none
theorem out_impl_Update_enc (d : D RT den) (y : S_impl_Update) (h : out_impl_Update d = some y) : d = enc_impl_Update y := by
  unfold out_impl_Update at h
  split at h
  · cases h; rfl
  · cases h
def enc_bo_bo_bo_bo (y : Bool × Bool × Bool × Bool) : D RT den := (.tup [(.bool y.1), (.bool y.2.1), (.bool y.2.2.1), (.bool y.2.2.2)])
def out_bo_bo_bo_bo (d : D RT den) : Option (Bool × Bool × Bool × Bool) := match d with | .tup [.bool a0_0, .bool a1_0, .bool a2_0, .bool a3_0] => some (a0_0, a1_0, a2_0, a3_0) | _ => none
theorem out_bo_bo_bo_bo_enc (d : D RT den) (y : Bool × Bool × Bool × Bool) (h : out_bo_bo_bo_bo d = some y) : d = enc_bo_bo_bo_bo y := by
  unfold out_bo_bo_bo_bo at h
  split at h
  · cases h; rfl
  · cases h
def enc_impl_IntResult (y : S_impl_IntResult) : D RT den := (.agg [(.int .i64 y.Code), (.int .i64 y.Value)])
def out_impl_IntResult (d : D RT den) : Option (S_impl_IntResult) := match d with | .agg [.int .i64 a0_1, .int .i64 a0_2] => some (⟨a0_1, a0_2⟩ : S_impl_IntResult) | _ => none
theorem out_impl_IntResult_enc (d : D RT den) (y : S_impl_IntResult) (h : out_impl_IntResult d = some y) : d = enc_impl_IntResult y := by
  unfold out_impl_IntResult at h
  split at h
  · cases h; rfl
  · cases h
def enc_i64_bo (y : Int × Bool) : D RT den := (.tup [(.int .i64 y.1), (.bool y.2)])
def out_i64_bo (d : D RT den) : Option (Int × Bool) := match d with | .tup [.int .i64 a0_0, .bool a1_0] => some (a0_0, a1_0) | _ => none
theorem out_i64_bo_enc (d : D RT den) (y : Int × Bool) (h : out_i64_bo d = some y) : d = enc_i64_bo y := by
  unfold out_i64_bo at h
  split at h
  · cases h; rfl
  · cases h
end Go.Proofs.Ythbimpgiafhfoaa.Pc
