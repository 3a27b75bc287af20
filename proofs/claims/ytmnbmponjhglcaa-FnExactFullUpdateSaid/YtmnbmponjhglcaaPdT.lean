/- The tables of the program's types for the value machine. Conditions: none. -/
import Derived.Test.YtmnbmponjhglcaaVmU
import Derived.Test.YtmnbmponjhglcaaVmO
import Derived.Test.YtmnbmponjhglcaaProg
import Derived.KernelRfl
namespace Go.Proofs.Ytmnbmponjhglcaa.Pd
open Go Go.RowKit Go.Proofs Vm
set_option linter.unusedVariables false
set_option linter.unusedSimpArgs false
set_option maxRecDepth 100000
structure S_impl_Backend where
  Name : Int
  Address : Int
  Weight : Int
  Stage : Int
  Up : Bool
structure S_impl_Vip where
  Address : Int
  Port : Int
  Proto : Int
  Names : (Sl Int)
structure S_laws_Config where
  Version : Int
  Backends : (Sl S_impl_Backend)
  Vips : (Sl S_impl_Vip)
structure S_impl_Cmd where
  Kind : Int
  Expect : Int
  Name : Int
  Addr : Int
  Number : Int
  Proto : Int
structure S_impl_Config where
  Version : Int
  Backends : (Sl S_impl_Backend)
  Vips : (Sl S_impl_Vip)
structure S_impl_Update where
  From : Int
  To : Int
  Full : Bool
  Config : S_impl_Config
  Cmds : (Sl S_impl_Cmd)
structure S_impl_UpdateResult where
  Code : Int
  Update : S_impl_Update
inductive RT where
  | i64
  | impl_Backend
  | impl_Vip
  | impl_Cmd

def RT.no : RT → Nat
  | .i64 => 0
  | .impl_Backend => 1
  | .impl_Vip => 2
  | .impl_Cmd => 3

instance : DecidableEq RT := fun a b => if h : a.no = b.no then isTrue (by cases a <;> cases b <;> first | rfl | (cases h)) else isFalse (fun e => h (by rw [e]))
def den : RT → Type
  | .i64 => Int
  | .impl_Backend => S_impl_Backend
  | .impl_Vip => S_impl_Vip
  | .impl_Cmd => S_impl_Cmd

def W_i64 (n : Int) : Prop := (Lit.int .i64 n).wf = true
def W_bo (b : Bool) : Prop := True
def W_impl_Backend (x : S_impl_Backend) : Prop := W_i64 x.Name ∧ W_i64 x.Address ∧ W_i64 x.Weight ∧ W_i64 x.Stage ∧ W_bo x.Up
def W_sl_impl_Backend (x : (Sl S_impl_Backend)) : Prop := x.n ≤ maxLen ∧ ∀ i, i < x.n → W_impl_Backend (x.f i)
def W_sl_i64 (x : (Sl Int)) : Prop := x.n ≤ maxLen ∧ ∀ i, i < x.n → W_i64 (x.f i)
def W_impl_Vip (x : S_impl_Vip) : Prop := W_i64 x.Address ∧ W_i64 x.Port ∧ W_i64 x.Proto ∧ W_sl_i64 x.Names
def W_sl_impl_Vip (x : (Sl S_impl_Vip)) : Prop := x.n ≤ maxLen ∧ ∀ i, i < x.n → W_impl_Vip (x.f i)
def W_laws_Config (x : S_laws_Config) : Prop := W_i64 x.Version ∧ W_sl_impl_Backend x.Backends ∧ W_sl_impl_Vip x.Vips
def dflt : (τ : RT) → den τ
  | .i64 => (0 : Int)
  | .impl_Backend => (⟨0, 0, 0, 0, false⟩ : S_impl_Backend)
  | .impl_Vip => (⟨0, 0, 0, ⟨some true, 0, fun _ => 0⟩⟩ : S_impl_Vip)
  | .impl_Cmd => (⟨0, 0, 0, 0, 0, 0⟩ : S_impl_Cmd)

def cellsR : (τ : RT) → den τ → List (D RT den)
  | .i64, (x : Int) => [(.int .i64 x)]
  | .impl_Backend, (x : S_impl_Backend) => [(.int .i64 x.Name), (.int .i64 x.Address), (.int .i64 x.Weight), (.int .i64 x.Stage), (.bool x.Up)]
  | .impl_Vip, (x : S_impl_Vip) => [(.int .i64 x.Address), (.int .i64 x.Port), (.int .i64 x.Proto), (.rs x.Names.z .i64 x.Names.n x.Names.f)]
  | .impl_Cmd, (x : S_impl_Cmd) => [(.int .i64 x.Kind), (.int .i64 x.Expect), (.int .i64 x.Name), (.int .i64 x.Addr), (.int .i64 x.Number), (.int .i64 x.Proto)]

def dec_i64 (cs : List (D RT den)) : Option Int := match cs with | [.int .i64 a0_0] => some a0_0 | _ => none
theorem dec_i64_cells (cs : List (D RT den)) (x : Int) (h : dec_i64 cs = some x) : cellsR .i64 x = cs := by
  unfold dec_i64 at h
  split at h
  · cases h; rfl
  · cases h
def dec_impl_Backend (cs : List (D RT den)) : Option S_impl_Backend := match cs with | [.int .i64 a0_1, .int .i64 a0_2, .int .i64 a0_3, .int .i64 a0_4, .bool a0_5] => some (⟨a0_1, a0_2, a0_3, a0_4, a0_5⟩ : S_impl_Backend) | _ => none
theorem dec_impl_Backend_cells (cs : List (D RT den)) (x : S_impl_Backend) (h : dec_impl_Backend cs = some x) : cellsR .impl_Backend x = cs := by
  unfold dec_impl_Backend at h
  split at h
  · cases h; rfl
  · cases h
def dec_impl_Vip (cs : List (D RT den)) : Option S_impl_Vip := match cs with | [.int .i64 a0_1, .int .i64 a0_2, .int .i64 a0_3, .rs za0_4 .i64 na0_4 fa0_4] => some (⟨a0_1, a0_2, a0_3, (⟨za0_4, na0_4, fa0_4⟩ : (Sl Int))⟩ : S_impl_Vip) | _ => none
theorem dec_impl_Vip_cells (cs : List (D RT den)) (x : S_impl_Vip) (h : dec_impl_Vip cs = some x) : cellsR .impl_Vip x = cs := by
  unfold dec_impl_Vip at h
  split at h
  · cases h; rfl
  · cases h
def dec_impl_Cmd (cs : List (D RT den)) : Option S_impl_Cmd := match cs with | [.int .i64 a0_1, .int .i64 a0_2, .int .i64 a0_3, .int .i64 a0_4, .int .i64 a0_5, .int .i64 a0_6] => some (⟨a0_1, a0_2, a0_3, a0_4, a0_5, a0_6⟩ : S_impl_Cmd) | _ => none
theorem dec_impl_Cmd_cells (cs : List (D RT den)) (x : S_impl_Cmd) (h : dec_impl_Cmd cs = some x) : cellsR .impl_Cmd x = cs := by
  unfold dec_impl_Cmd at h
  split at h
  · cases h; rfl
  · cases h
def decR : (τ : RT) → List (D RT den) → Option (den τ)
  | .i64, cs => dec_i64 cs
  | .impl_Backend, cs => dec_impl_Backend cs
  | .impl_Vip, cs => dec_impl_Vip cs
  | .impl_Cmd, cs => dec_impl_Cmd cs

def sizeR : RT → Nat
  | .i64 => 1
  | .impl_Backend => 5
  | .impl_Vip => 4
  | .impl_Cmd => 6

def sclR : RT → Bool
  | .i64 => true
  | .impl_Backend => true
  | .impl_Vip => false
  | .impl_Cmd => true

def nilR : RT → Bool
  | .i64 => false
  | .impl_Backend => false
  | .impl_Vip => false
  | .impl_Cmd => false

def rtl : List (Nat × RT) := [(2, .i64), (3, .i64), (113, .impl_Backend), (116, .impl_Cmd), (146, .impl_Vip), (199, .impl_Vip), (203, .impl_Backend)]
def zs : List (Nat × List (D RT den)) := [(2, [(.int .i64 0)]), (3, [(.int .i64 0)]), (59, [(.int .i64 0), (.emp true .impl_Backend), (.emp true .impl_Vip)]), (71, [(.int .i64 0), (.int .i64 0), (.bool false), (.int .i64 0), (.emp true .impl_Backend), (.emp true .impl_Vip), (.emp true .impl_Cmd)]), (73, [(.int .i64 0), (.int .i64 0), (.int .i64 0), (.bool false), (.int .i64 0), (.emp true .impl_Backend), (.emp true .impl_Vip), (.emp true .impl_Cmd)]), (113, [(.int .i64 0), (.int .i64 0), (.int .i64 0), (.int .i64 0), (.bool false)]), (146, [(.int .i64 0), (.int .i64 0), (.int .i64 0), (.emp true .i64)])]
def tbl : List (Nat × TI) := [(2, ⟨1, 8, false, none, [], false, none, false, none⟩),
  (3, ⟨1, 8, false, none, [], false, none, false, none⟩),
  (4, ⟨1, 1, false, none, [], false, none, true, none⟩),
  (45, ⟨1, 24, false, some 203, [], false, none, false, none⟩),
  (46, ⟨1, 24, false, some 199, [], false, none, false, none⟩),
  (48, ⟨3, 56, true, none, [(0, 2), (1, 45), (2, 46)], false, none, false, none⟩),
  (52, ⟨1, 24, false, some 116, [], false, none, false, none⟩),
  (56, ⟨1, 24, false, some 113, [], false, none, false, none⟩),
  (57, ⟨1, 24, false, some 146, [], false, none, false, none⟩),
  (59, ⟨3, 56, true, none, [(0, 2), (1, 56), (2, 57)], true, none, false, none⟩),
  (71, ⟨7, 104, true, none, [(0, 2), (1, 2), (2, 4), (3, 59), (6, 52)], true, none, false, none⟩),
  (73, ⟨8, 112, true, none, [(0, 2), (1, 71)], true, none, false, none⟩),
  (113, ⟨5, 40, true, none, [(0, 2), (1, 2), (2, 2), (3, 2), (4, 4)], false, none, false, none⟩),
  (116, ⟨6, 48, true, none, [(0, 2), (1, 2), (2, 2), (3, 2), (4, 2), (5, 2)], false, none, false, none⟩),
  (144, ⟨1, 24, false, some 2, [], false, none, false, none⟩),
  (146, ⟨4, 48, true, none, [(0, 2), (1, 2), (2, 2), (3, 144)], false, none, false, none⟩),
  (199, ⟨4, 48, true, none, [(0, 2), (1, 2), (2, 2), (3, 144)], false, none, false, none⟩),
  (203, ⟨5, 40, true, none, [(0, 2), (1, 2), (2, 2), (3, 2), (4, 4)], false, none, false, none⟩),
  (244, ⟨1, 24, false, some 3, [], false, none, false, none⟩)]
noncomputable def fnT (f : Nat) : Option Func := match f with
  | 5 => some Try.f5
  | 16 => some Try.f16
  | 19 => some Try.f19
  | 23 => some Try.f23
  | 25 => some Try.f25
  | 29 => some Try.f29
  | 30 => some Try.f30
  | 31 => some Try.f31
  | 32 => some Try.f32
  | 33 => some Try.f33
  | 61 => some Try.f61
  | 62 => some Try.f62
  | 63 => some Try.f63
  | 65 => some Try.f65
  | 67 => some Try.f67
  | 68 => some Try.f68
  | 70 => some Try.f70
  | 72 => some Try.f72
  | 74 => some Try.f74
  | 75 => some Try.f75
  | 76 => some Try.f76
  | 78 => some Try.f78
  | 79 => some Try.f79
  | 80 => some Try.f80
  | 81 => some Try.f81
  | 82 => some Try.f82
  | 83 => some Try.f83
  | 84 => some Try.f84
  | 85 => some Try.f85
  | 86 => some Try.f86
  | 90 => some Try.f90
  | 93 => some Try.f93
  | 96 => some Try.f96
  | 101 => some Try.f101
  | 122 => some Try.f122
  | 123 => some Try.f123
  | 124 => some Try.f124
  | 125 => some Try.f125
  | 126 => some Try.f126
  | 127 => some Try.f127
  | 129 => some Try.f129
  | 130 => some Try.f130
  | 131 => some Try.f131
  | 132 => some Try.f132
  | 133 => some Try.f133
  | 134 => some Try.f134
  | 135 => some Try.f135
  | 136 => some Try.f136
  | 137 => some Try.f137
  | 138 => some Try.f138
  | 139 => some Try.f139
  | 140 => some Try.f140
  | 141 => some Try.f141
  | 144 => some Try.f144
  | 151 => some Try.f151
  | 154 => some Try.f154
  | 155 => some Try.f155
  | 157 => some Try.f157
  | 165 => some Try.f165
  | 175 => some Try.f175
  | 176 => some Try.f176
  | 177 => some Try.f177
  | 178 => some Try.f178
  | 179 => some Try.f179
  | 180 => some Try.f180
  | 181 => some Try.f181
  | 182 => some Try.f182
  | 183 => some Try.f183
  | 184 => some Try.f184
  | 185 => some Try.f185
  | 199 => some Try.f199
  | 200 => some Try.f200
  | _ => none
def parT (f : Nat) : List Nat := []
def R : Vm.Rows RT den := ⟨fun t => rtl.lookup t, sizeR, cellsR, decR, (fun a b => decEq a b), dflt, fun t => zs.lookup t, sclR, nilR⟩
noncomputable def E : Env RT den := envOf Try.prog tbl R zs fnT parT
theorem rows_ok : RowsOk R tbl where
  size := by intro τ x; cases τ <;> rfl
  dec := by
    intro τ cs x h
    cases τ
    · exact dec_i64_cells cs x h
    · exact dec_impl_Backend_cells cs x h
    · exact dec_impl_Vip_cells cs x h
    · exact dec_impl_Cmd_cells cs x h
  pure := by intro τ x; cases τ <;> rfl
  scl := by intro τ h x; cases τ <;> first | rfl | cases h
  rt := rt_of (by kernel_rfl)
theorem fn_ok : ∀ f g, fnT f = some g → Try.prog.funcs[f]? = some g := by
  intro f g h
  unfold fnT at h
  split at h <;> first | (cases h; kernel_rfl) | cases h
theorem E_ok : Ok E Try.prog := envOf_ok (by kernel_rfl) (by kernel_rfl) (by kernel_rfl) fn_ok rows_ok (by kernel_rfl)
def pcf0 : Nat → List (D RT den) → Option (Out RT den) := fun _ _ => none
def pcd0 : Nat → Bool := fun _ => false
def pcx0 : Nat → List (D RT den) → List (Ob RT den) → Option (OutX RT den) := fun _ _ _ => none
theorem hpc0 : ∀ f xs o, pcf0 f xs = some o → ∀ y, o.x = some y → Good E Try.prog f xs (o.g y) := by
  intro f xs o h
  cases h
theorem hpx0 : ∀ f xs ins o, pcx0 f xs ins = some o → ∀ y, o.x = some y → GoodXD E Try.prog (pcd0 f) f xs ins (o.g y).1 (o.g y).2 := by
  intro f xs ins o h
  cases h
def upd_impl_Backend_0_1 (f : Nat → S_impl_Backend) (j : Nat) (v0 : Int) : Nat → S_impl_Backend := fun i => if i = j then (⟨v0, (f j).Address, (f j).Weight, (f j).Stage, (f j).Up⟩ : S_impl_Backend) else f i
def upd_impl_Backend_1_1 (f : Nat → S_impl_Backend) (j : Nat) (v0 : Int) : Nat → S_impl_Backend := fun i => if i = j then (⟨(f j).Name, v0, (f j).Weight, (f j).Stage, (f j).Up⟩ : S_impl_Backend) else f i
def upd_impl_Backend_2_1 (f : Nat → S_impl_Backend) (j : Nat) (v0 : Int) : Nat → S_impl_Backend := fun i => if i = j then (⟨(f j).Name, (f j).Address, v0, (f j).Stage, (f j).Up⟩ : S_impl_Backend) else f i
def upd_impl_Backend_3_1 (f : Nat → S_impl_Backend) (j : Nat) (v0 : Int) : Nat → S_impl_Backend := fun i => if i = j then (⟨(f j).Name, (f j).Address, (f j).Weight, v0, (f j).Up⟩ : S_impl_Backend) else f i
def upd_impl_Backend_4_1 (f : Nat → S_impl_Backend) (j : Nat) (v0 : Bool) : Nat → S_impl_Backend := fun i => if i = j then (⟨(f j).Name, (f j).Address, (f j).Weight, (f j).Stage, v0⟩ : S_impl_Backend) else f i
def upd_impl_Cmd_0_1 (f : Nat → S_impl_Cmd) (j : Nat) (v0 : Int) : Nat → S_impl_Cmd := fun i => if i = j then (⟨v0, (f j).Expect, (f j).Name, (f j).Addr, (f j).Number, (f j).Proto⟩ : S_impl_Cmd) else f i
def upd_impl_Cmd_1_1 (f : Nat → S_impl_Cmd) (j : Nat) (v0 : Int) : Nat → S_impl_Cmd := fun i => if i = j then (⟨(f j).Kind, v0, (f j).Name, (f j).Addr, (f j).Number, (f j).Proto⟩ : S_impl_Cmd) else f i
def upd_impl_Cmd_2_1 (f : Nat → S_impl_Cmd) (j : Nat) (v0 : Int) : Nat → S_impl_Cmd := fun i => if i = j then (⟨(f j).Kind, (f j).Expect, v0, (f j).Addr, (f j).Number, (f j).Proto⟩ : S_impl_Cmd) else f i
def upd_impl_Cmd_3_1 (f : Nat → S_impl_Cmd) (j : Nat) (v0 : Int) : Nat → S_impl_Cmd := fun i => if i = j then (⟨(f j).Kind, (f j).Expect, (f j).Name, v0, (f j).Number, (f j).Proto⟩ : S_impl_Cmd) else f i
def upd_impl_Cmd_4_1 (f : Nat → S_impl_Cmd) (j : Nat) (v0 : Int) : Nat → S_impl_Cmd := fun i => if i = j then (⟨(f j).Kind, (f j).Expect, (f j).Name, (f j).Addr, v0, (f j).Proto⟩ : S_impl_Cmd) else f i
def upd_impl_Cmd_5_1 (f : Nat → S_impl_Cmd) (j : Nat) (v0 : Int) : Nat → S_impl_Cmd := fun i => if i = j then (⟨(f j).Kind, (f j).Expect, (f j).Name, (f j).Addr, (f j).Number, v0⟩ : S_impl_Cmd) else f i
def upd_impl_Vip_0_1 (f : Nat → S_impl_Vip) (j : Nat) (v0 : Int) : Nat → S_impl_Vip := fun i => if i = j then (⟨v0, (f j).Port, (f j).Proto, (f j).Names⟩ : S_impl_Vip) else f i
def upd_impl_Vip_1_1 (f : Nat → S_impl_Vip) (j : Nat) (v0 : Int) : Nat → S_impl_Vip := fun i => if i = j then (⟨(f j).Address, v0, (f j).Proto, (f j).Names⟩ : S_impl_Vip) else f i
def upd_impl_Vip_2_1 (f : Nat → S_impl_Vip) (j : Nat) (v0 : Int) : Nat → S_impl_Vip := fun i => if i = j then (⟨(f j).Address, (f j).Port, v0, (f j).Names⟩ : S_impl_Vip) else f i
def upd_impl_Vip_3_1 (f : Nat → S_impl_Vip) (j : Nat) (v0 : (Sl Int)) : Nat → S_impl_Vip := fun i => if i = j then (⟨(f j).Address, (f j).Port, (f j).Proto, v0⟩ : S_impl_Vip) else f i
def enc_impl_Backend (y : S_impl_Backend) : D RT den := (.agg [(.int .i64 y.Name), (.int .i64 y.Address), (.int .i64 y.Weight), (.int .i64 y.Stage), (.bool y.Up)])
def out_impl_Backend (d : D RT den) : Option (S_impl_Backend) := match d with | .agg [.int .i64 a0_1, .int .i64 a0_2, .int .i64 a0_3, .int .i64 a0_4, .bool a0_5] => some (⟨a0_1, a0_2, a0_3, a0_4, a0_5⟩ : S_impl_Backend) | _ => none
theorem out_impl_Backend_enc (d : D RT den) (y : S_impl_Backend) (h : out_impl_Backend d = some y) : d = enc_impl_Backend y := by
  unfold out_impl_Backend at h
  split at h
  · cases h; rfl
  · cases h
def enc_sl_impl_Backend_H (y : (Sl S_impl_Backend)) : D RT den × List (Ob RT den) := ((.os 0 y.n), [(.row false .impl_Backend y.n y.f)])
def out_sl_impl_Backend_H (d : D RT den) (os : List (Ob RT den)) : Option ((Sl S_impl_Backend)) := match d, os with | .rs za0_0 .impl_Backend na0_0 fa0_0, [] => some (⟨za0_0, na0_0, fa0_0⟩ : (Sl S_impl_Backend)) | _, _ => none
theorem out_sl_impl_Backend_H_enc (d : D RT den) (os : List (Ob RT den)) (y : (Sl S_impl_Backend)) (h : out_sl_impl_Backend_H d os = some y) : (unh 0 d).1 = (enc_sl_impl_Backend_H y).1 ∧ os ++ (unh 0 d).2 = (enc_sl_impl_Backend_H y).2 := by
  unfold out_sl_impl_Backend_H at h
  split at h
  · cases h; exact ⟨rfl, rfl⟩
  · cases h
def enc_sl_i64_H (y : (Sl Int)) : D RT den × List (Ob RT den) := ((.os 0 y.n), [(.row false .i64 y.n y.f)])
def out_sl_i64_H (d : D RT den) (os : List (Ob RT den)) : Option ((Sl Int)) := match d, os with | .rs za0_0 .i64 na0_0 fa0_0, [] => some (⟨za0_0, na0_0, fa0_0⟩ : (Sl Int)) | _, _ => none
theorem out_sl_i64_H_enc (d : D RT den) (os : List (Ob RT den)) (y : (Sl Int)) (h : out_sl_i64_H d os = some y) : (unh 0 d).1 = (enc_sl_i64_H y).1 ∧ os ++ (unh 0 d).2 = (enc_sl_i64_H y).2 := by
  unfold out_sl_i64_H at h
  split at h
  · cases h; exact ⟨rfl, rfl⟩
  · cases h
def enc_impl_Vip_H (y : S_impl_Vip) : D RT den × List (Ob RT den) := ((.agg [(.int .i64 y.Address), (.int .i64 y.Port), (.int .i64 y.Proto), (.os 0 y.Names.n)]), [(.row false .i64 y.Names.n y.Names.f)])
def out_impl_Vip_H (d : D RT den) (os : List (Ob RT den)) : Option (S_impl_Vip) := match d, os with | .agg [.int .i64 a0_1, .int .i64 a0_2, .int .i64 a0_3, .rs za0_4 .i64 na0_4 fa0_4], [] => some (⟨a0_1, a0_2, a0_3, (⟨za0_4, na0_4, fa0_4⟩ : (Sl Int))⟩ : S_impl_Vip) | _, _ => none
theorem out_impl_Vip_H_enc (d : D RT den) (os : List (Ob RT den)) (y : S_impl_Vip) (h : out_impl_Vip_H d os = some y) : (unh 0 d).1 = (enc_impl_Vip_H y).1 ∧ os ++ (unh 0 d).2 = (enc_impl_Vip_H y).2 := by
  unfold out_impl_Vip_H at h
  split at h
  · cases h; exact ⟨rfl, rfl⟩
  · cases h
def enc_bo (y : Bool) : D RT den := (.bool y)
def out_bo (d : D RT den) : Option (Bool) := match d with | .bool a0_0 => some a0_0 | _ => none
theorem out_bo_enc (d : D RT den) (y : Bool) (h : out_bo d = some y) : d = enc_bo y := by
  unfold out_bo at h
  split at h
  · cases h; rfl
  · cases h
def enc_i64 (y : Int) : D RT den := (.int .i64 y)
def out_i64 (d : D RT den) : Option (Int) := match d with | .int .i64 a0_0 => some a0_0 | _ => none
theorem out_i64_enc (d : D RT den) (y : Int) (h : out_i64 d = some y) : d = enc_i64 y := by
  unfold out_i64 at h
  split at h
  · cases h; rfl
  · cases h
end Go.Proofs.Ytmnbmponjhglcaa.Pd
