/- The tables of the program's types for the value machine. Conditions: none. -/
import Derived.Test.YtcmfekgdlaffkaaVmU
import Derived.Test.YtcmfekgdlaffkaaVmO
import Derived.Test.YtcmfekgdlaffkaaProg
import Derived.KernelRfl
namespace Go.Proofs.Ytcmfekgdlaffkaa.Pq
open Go Go.RowKit Go.Proofs Vm
set_option linter.unusedVariables false
set_option linter.unusedSimpArgs false
set_option maxRecDepth 100000
structure S_spec_l1Src where
  Code : (Sl Int)
  At : Int
structure S_impl_Cmd where
  Kind : Int
  Expect : Int
  Name : Int
  Addr : Int
  Number : Int
  Proto : Int
structure S_impl_Backend where
  Name : Int
  Address : Int
  Weight : Int
  Stage : Int
  Up : Bool
structure S_impl_Vip where
  Address : Int
  Port : Int
  Proto : Int
  Names : (Sl Int)
structure S_impl_Config where
  Version : Int
  Backends : (Sl S_impl_Backend)
  Vips : (Sl S_impl_Vip)
structure S_impl_reader where
  left : (Sl Int)
  short : Bool
structure S_impl_ConfigResult where
  Code : Int
  Config : S_impl_Config
structure S_impl_BytesResult where
  Code : Int
  Bytes : (Sl Int)
structure S_spec_l6Read where
  Data : (Sl Int)
  At : Int
  Bad : Bool
structure S_impl_CmdResult where
  Code : Int
  Cmd : S_impl_Cmd
inductive RT where
  | i64
  | u8
  | impl_Backend
  | impl_Vip

def RT.no : RT → Nat
  | .i64 => 0
  | .u8 => 1
  | .impl_Backend => 2
  | .impl_Vip => 3

instance : DecidableEq RT := fun a b => if h : a.no = b.no then isTrue (by cases a <;> cases b <;> first | rfl | (cases h)) else isFalse (fun e => h (by rw [e]))
def den : RT → Type
  | .i64 => Int
  | .u8 => Int
  | .impl_Backend => S_impl_Backend
  | .impl_Vip => S_impl_Vip

def W_u8 (n : Int) : Prop := (Lit.int .u8 n).wf = true
def W_sl_u8 (x : (Sl Int)) : Prop := x.n ≤ maxLen ∧ ∀ i, i < x.n → W_u8 (x.f i)
def dflt : (τ : RT) → den τ
  | .i64 => (0 : Int)
  | .u8 => (0 : Int)
  | .impl_Backend => (⟨0, 0, 0, 0, false⟩ : S_impl_Backend)
  | .impl_Vip => (⟨0, 0, 0, ⟨some true, 0, fun _ => 0⟩⟩ : S_impl_Vip)

def cellsR : (τ : RT) → den τ → List (D RT den)
  | .i64, (x : Int) => [(.int .i64 x)]
  | .u8, (x : Int) => [(.int .u8 x)]
  | .impl_Backend, (x : S_impl_Backend) => [(.int .i64 x.Name), (.int .i64 x.Address), (.int .i64 x.Weight), (.int .i64 x.Stage), (.bool x.Up)]
  | .impl_Vip, (x : S_impl_Vip) => [(.int .i64 x.Address), (.int .i64 x.Port), (.int .i64 x.Proto), (.rs x.Names.z .i64 x.Names.n x.Names.f)]

def dec_i64 (cs : List (D RT den)) : Option Int := match cs with | [.int .i64 a0_0] => some a0_0 | _ => none
theorem dec_i64_cells (cs : List (D RT den)) (x : Int) (h : dec_i64 cs = some x) : cellsR .i64 x = cs := by
  unfold dec_i64 at h
  split at h
  · cases h; rfl
  · cases h
def dec_u8 (cs : List (D RT den)) : Option Int := match cs with | [.int .u8 a0_0] => some a0_0 | _ => none
theorem dec_u8_cells (cs : List (D RT den)) (x : Int) (h : dec_u8 cs = some x) : cellsR .u8 x = cs := by
  unfold dec_u8 at h
  split at h
  · cases h; rfl
  · cases h
def dec_impl_Backend (cs : List (D RT den)) : Option S_impl_Backend := match cs with | [.int .i64 a0_1, .int .i64 a0_2, .int .i64 a0_3, .int .i64 a0_4, .bool a0_5] => some (⟨a0_1, a0_2, a0_3, a0_4, a0_5⟩ : S_impl_Backend) | _ => none
theorem dec_impl_Backend_cells (cs : List (D RT den)) (x : S_impl_Backend) (h : dec_impl_Backend cs = some x) : cellsR .impl_Backend x = cs := by
  unfold dec_impl_Backend at h
  split at h
  · cases h; rfl
  · cases h
def dec_impl_Vip (cs : List (D RT den)) : Option S_impl_Vip := match cs with | [.int .i64 a0_1, .int .i64 a0_2, .int .i64 a0_3, .rs za0_4 .i64 na0_4 fa0_4] => some (⟨a0_1, a0_2, a0_3, (⟨za0_4, na0_4, fa0_4⟩ : (Sl Int))⟩ : S_impl_Vip) | _ => none
theorem dec_impl_Vip_cells (cs : List (D RT den)) (x : S_impl_Vip) (h : dec_impl_Vip cs = some x) : cellsR .impl_Vip x = cs := by
  unfold dec_impl_Vip at h
  split at h
  · cases h; rfl
  · cases h
def decR : (τ : RT) → List (D RT den) → Option (den τ)
  | .i64, cs => dec_i64 cs
  | .u8, cs => dec_u8 cs
  | .impl_Backend, cs => dec_impl_Backend cs
  | .impl_Vip, cs => dec_impl_Vip cs

def sizeR : RT → Nat
  | .i64 => 1
  | .u8 => 1
  | .impl_Backend => 5
  | .impl_Vip => 4

def sclR : RT → Bool
  | .i64 => true
  | .u8 => true
  | .impl_Backend => true
  | .impl_Vip => false

def nilR : RT → Bool
  | .i64 => false
  | .u8 => false
  | .impl_Backend => false
  | .impl_Vip => false

def bytR : RT → Bool
  | .i64 => false
  | .u8 => true
  | .impl_Backend => false
  | .impl_Vip => false

def litR : RT → Bool
  | .i64 => false
  | .u8 => false
  | .impl_Backend => false
  | .impl_Vip => false

def rtl : List (Nat × RT) := [(2, .i64), (3, .i64), (5, .u8), (61, .impl_Backend), (64, .impl_Vip)]
def zs : List (Nat × List (D RT den)) := [(2, [(.int .i64 0)]), (3, [(.int .i64 0)]), (5, [(.int .u8 0)]), (26, [(.int .i64 0), (.emp true .impl_Backend), (.emp true .impl_Vip)]), (28, [(.int .i64 0), (.int .i64 0), (.emp true .impl_Backend), (.emp true .impl_Vip)]), (37, [(.int .i64 0), (.int .i64 0), (.int .i64 0), (.int .i64 0), (.int .i64 0), (.int .i64 0)]), (39, [(.int .i64 0), (.int .i64 0), (.int .i64 0), (.int .i64 0), (.int .i64 0), (.int .i64 0), (.int .i64 0)]), (42, [(.int .i64 0), (.emp true .u8)]), (57, [(.emp true .u8), (.int .i64 0), (.bool false)]), (61, [(.int .i64 0), (.int .i64 0), (.int .i64 0), (.int .i64 0), (.bool false)]), (64, [(.int .i64 0), (.int .i64 0), (.int .i64 0), (.emp true .i64)]), (70, [(.emp true .u8), (.bool false)]), (116, [(.emp true .u8), (.int .i64 0)])]
def tbl : List (Nat × TI) := [(2, ⟨1, 8, false, none, [], false, none, false, (some .i64), false⟩),
  (3, ⟨1, 8, false, none, [], false, none, false, (some .i64), false⟩),
  (4, ⟨1, 1, false, none, [], false, none, false, none, false⟩),
  (5, ⟨1, 1, false, none, [], false, none, false, (some .u8), false⟩),
  (9, ⟨1, 16, false, none, [], false, none, false, none, true⟩),
  (22, ⟨1, 24, false, some 5, [], false, none, false, none, false⟩),
  (23, ⟨1, 24, false, some 61, [], false, none, false, none, false⟩),
  (24, ⟨1, 24, false, some 64, [], false, none, false, none, false⟩),
  (26, ⟨3, 56, true, none, [(0, 2), (1, 23), (2, 24)], true, none, false, none, false⟩),
  (28, ⟨4, 64, true, none, [(0, 2), (1, 26)], true, none, false, none, false⟩),
  (37, ⟨6, 48, true, none, [(0, 2), (1, 2), (2, 2), (3, 2), (4, 2), (5, 2)], true, (some [true, true, true, true, true, true]), false, none, false⟩),
  (39, ⟨7, 56, true, none, [(0, 2), (1, 37)], true, none, false, none, false⟩),
  (42, ⟨2, 32, true, none, [(0, 2), (1, 22)], true, none, false, none, false⟩),
  (57, ⟨3, 40, true, none, [(0, 22), (1, 2), (2, 4)], true, none, false, none, false⟩),
  (61, ⟨5, 40, true, none, [(0, 2), (1, 2), (2, 2), (3, 2), (4, 4)], true, (some [true, true, true, true, false]), false, none, false⟩),
  (62, ⟨1, 24, false, some 2, [], false, none, false, none, false⟩),
  (64, ⟨4, 48, true, none, [(0, 2), (1, 2), (2, 2), (3, 62)], true, none, false, none, false⟩),
  (70, ⟨2, 32, true, none, [(0, 22), (1, 4)], true, none, false, none, false⟩),
  (116, ⟨2, 32, true, none, [(0, 22), (1, 2)], true, none, false, none, false⟩),
  (122, ⟨1, 8, false, none, [], false, none, false, (some .u64), false⟩),
  (148, ⟨1, 24, false, some 3, [], false, none, false, none, false⟩)]
noncomputable def fnT (f : Nat) : Option Func := match f with
  | 4 => some Try.f4
  | 6 => some Try.f6
  | 8 => some Try.f8
  | 14 => some Try.f14
  | 15 => some Try.f15
  | 16 => some Try.f16
  | 17 => some Try.f17
  | 18 => some Try.f18
  | 19 => some Try.f19
  | 20 => some Try.f20
  | 21 => some Try.f21
  | 22 => some Try.f22
  | 23 => some Try.f23
  | 24 => some Try.f24
  | 25 => some Try.f25
  | 31 => some Try.f31
  | 32 => some Try.f32
  | 33 => some Try.f33
  | 34 => some Try.f34
  | 35 => some Try.f35
  | 36 => some Try.f36
  | 37 => some Try.f37
  | 40 => some Try.f40
  | 41 => some Try.f41
  | 42 => some Try.f42
  | 43 => some Try.f43
  | 44 => some Try.f44
  | 45 => some Try.f45
  | 46 => some Try.f46
  | 47 => some Try.f47
  | 48 => some Try.f48
  | 49 => some Try.f49
  | 50 => some Try.f50
  | 51 => some Try.f51
  | 52 => some Try.f52
  | 58 => some Try.f58
  | 63 => some Try.f63
  | 66 => some Try.f66
  | 70 => some Try.f70
  | 73 => some Try.f73
  | 74 => some Try.f74
  | 75 => some Try.f75
  | 76 => some Try.f76
  | 77 => some Try.f77
  | 78 => some Try.f78
  | 79 => some Try.f79
  | 80 => some Try.f80
  | 81 => some Try.f81
  | 82 => some Try.f82
  | 83 => some Try.f83
  | 88 => some Try.f88
  | 89 => some Try.f89
  | 90 => some Try.f90
  | 91 => some Try.f91
  | 92 => some Try.f92
  | 93 => some Try.f93
  | 94 => some Try.f94
  | 95 => some Try.f95
  | 96 => some Try.f96
  | 97 => some Try.f97
  | 98 => some Try.f98
  | 99 => some Try.f99
  | 100 => some Try.f100
  | 101 => some Try.f101
  | 102 => some Try.f102
  | 103 => some Try.f103
  | 113 => some Try.f113
  | 116 => some Try.f116
  | 117 => some Try.f117
  | 120 => some Try.f120
  | 121 => some Try.f121
  | 122 => some Try.f122
  | 123 => some Try.f123
  | 126 => some Try.f126
  | 127 => some Try.f127
  | 128 => some Try.f128
  | 129 => some Try.f129
  | 139 => some Try.f139
  | 140 => some Try.f140
  | 141 => some Try.f141
  | 142 => some Try.f142
  | 143 => some Try.f143
  | _ => none
def parT (f : Nat) : List Nat := match f with | 83 => [22, 2, 2] | _ => []
def R : Vm.Rows RT den := ⟨fun t => rtl.lookup t, sizeR, cellsR, decR, (fun a b => decEq a b), dflt, fun t => zs.lookup t, sclR, nilR, bytR, litR⟩
noncomputable def E : Env RT den := envOf Try.prog tbl R zs fnT parT
theorem rows_ok : RowsOk R tbl where
  size := by intro τ x; cases τ <;> rfl
  dec := by
    intro τ cs x h
    cases τ
    · exact dec_i64_cells cs x h
    · exact dec_u8_cells cs x h
    · exact dec_impl_Backend_cells cs x h
    · exact dec_impl_Vip_cells cs x h
  pure := by intro τ x; cases τ <;> rfl
  scl := by intro τ h x; cases τ <;> first | rfl | cases h
  byt := by intro τ h x; cases τ <;> first | exact ⟨_, rfl⟩ | cases h
  rt := rt_of (by kernel_rfl)
theorem fn_ok : ∀ f g, fnT f = some g → Try.prog.funcs[f]? = some g := by
  intro f g h
  unfold fnT at h
  split at h <;> first | (cases h; kernel_rfl) | cases h
theorem E_ok : Ok E Try.prog := envOf_ok (by kernel_rfl) (by kernel_rfl) (by kernel_rfl) fn_ok rows_ok (by kernel_rfl)
def pcf0 : Nat → List (D RT den) → Option (Out RT den) := fun _ _ => none
def pcd0 : Nat → Bool := fun _ => false
def pcx0 : Nat → List (D RT den) → List (Ob RT den) → Option (OutX RT den) := fun _ _ _ => none
theorem hpc0 : ∀ f xs o, pcf0 f xs = some o → ∀ y, o.x = some y → Good E Try.prog f xs (o.g y) := by
  intro f xs o h
  cases h
theorem hpx0 : ∀ f xs ins o, pcx0 f xs ins = some o → ∀ y, o.x = some y → GoodXD E Try.prog (pcd0 f) (pcd0 f) f xs ins (o.g y).1 (o.g y).2 := by
  intro f xs ins o h
  cases h
def upd_impl_Backend_2_1 (f : Nat → S_impl_Backend) (j : Nat) (v0 : Int) : Nat → S_impl_Backend := fun i => if i = j then (⟨(f j).Name, (f j).Address, v0, (f j).Stage, (f j).Up⟩ : S_impl_Backend) else f i
def upd_impl_Backend_3_1 (f : Nat → S_impl_Backend) (j : Nat) (v0 : Int) : Nat → S_impl_Backend := fun i => if i = j then (⟨(f j).Name, (f j).Address, (f j).Weight, v0, (f j).Up⟩ : S_impl_Backend) else f i
def upd_impl_Backend_4_1 (f : Nat → S_impl_Backend) (j : Nat) (v0 : Bool) : Nat → S_impl_Backend := fun i => if i = j then (⟨(f j).Name, (f j).Address, (f j).Weight, (f j).Stage, v0⟩ : S_impl_Backend) else f i
def upd_impl_Vip_3_1 (f : Nat → S_impl_Vip) (j : Nat) (v0 : (Sl Int)) : Nat → S_impl_Vip := fun i => if i = j then (⟨(f j).Address, (f j).Port, (f j).Proto, v0⟩ : S_impl_Vip) else f i
def enc_bo (y : Bool) : D RT den := (.bool y)
def out_bo (d : D RT den) : Option (Bool) := match d with | .bool a0_0 => some a0_0 | _ => none
theorem out_bo_enc (d : D RT den) (y : Bool) (h : out_bo d = some y) : d = enc_bo y := by
  unfold out_bo at h
  split at h
  · cases h; rfl
  · cases h
def enc_bo_bo_bo_bo (y : Bool × Bool × Bool × Bool) : D RT den := (.tup [(.bool y.1), (.bool y.2.1), (.bool y.2.2.1), (.bool y.2.2.2)])
def out_bo_bo_bo_bo (d : D RT den) : Option (Bool × Bool × Bool × Bool) := match d with | .tup [.bool a0_0, .bool a1_0, .bool a2_0, .bool a3_0] => some (a0_0, a1_0, a2_0, a3_0) | _ => none
theorem out_bo_bo_bo_bo_enc (d : D RT den) (y : Bool × Bool × Bool × Bool) (h : out_bo_bo_bo_bo d = some y) : d = enc_bo_bo_bo_bo y := by
  unfold out_bo_bo_bo_bo at h
  split at h
  · cases h; rfl
  · cases h
def enc_sl_u8_H (y : (Sl Int)) : D RT den × List (Ob RT den) := ((.os 0 y.n), [(.row false .u8 y.n y.f)])
def out_sl_u8_H (d : D RT den) (os : List (Ob RT den)) : Option ((Sl Int)) := match d, os with | .rs za0_0 .u8 na0_0 fa0_0, [] => some (⟨za0_0, na0_0, fa0_0⟩ : (Sl Int)) | _, _ => none
theorem out_sl_u8_H_enc (d : D RT den) (os : List (Ob RT den)) (y : (Sl Int)) (h : out_sl_u8_H d os = some y) : (unh 0 d).1 = (enc_sl_u8_H y).1 ∧ os ++ (unh 0 d).2 = (enc_sl_u8_H y).2 := by
  unfold out_sl_u8_H at h
  split at h
  · cases h; exact ⟨rfl, rfl⟩
  · cases h
def enc_sl_u8 (y : (Sl Int)) : D RT den := (.rs y.z .u8 y.n y.f)
def out_sl_u8 (d : D RT den) : Option ((Sl Int)) := match d with | .rs za0_0 .u8 na0_0 fa0_0 => some (⟨za0_0, na0_0, fa0_0⟩ : (Sl Int)) | _ => none
theorem out_sl_u8_enc (d : D RT den) (y : (Sl Int)) (h : out_sl_u8 d = some y) : d = enc_sl_u8 y := by
  unfold out_sl_u8 at h
  split at h
  · cases h; rfl
  · cases h
def enc_i64 (y : Int) : D RT den := (.int .i64 y)
def out_i64 (d : D RT den) : Option (Int) := match d with | .int .i64 a0_0 => some a0_0 | _ => none
theorem out_i64_enc (d : D RT den) (y : Int) (h : out_i64 d = some y) : d = enc_i64 y := by
  unfold out_i64 at h
  split at h
  · cases h; rfl
  · cases h
def enc_sl_i64 (y : (Sl Int)) : D RT den := (.rs y.z .i64 y.n y.f)
def out_sl_i64 (d : D RT den) : Option ((Sl Int)) := match d with | .rs za0_0 .i64 na0_0 fa0_0 => some (⟨za0_0, na0_0, fa0_0⟩ : (Sl Int)) | _ => none
theorem out_sl_i64_enc (d : D RT den) (y : (Sl Int)) (h : out_sl_i64 d = some y) : d = enc_sl_i64 y := by
  unfold out_sl_i64 at h
  split at h
  · cases h; rfl
  · cases h
def enc_impl_ConfigResult (y : S_impl_ConfigResult) : D RT den := (.agg [(.int .i64 y.Code), (.int .i64 y.Config.Version), (.rs y.Config.Backends.z .impl_Backend y.Config.Backends.n y.Config.Backends.f), (.rs y.Config.Vips.z .impl_Vip y.Config.Vips.n y.Config.Vips.f)])
def out_impl_ConfigResult (d : D RT den) : Option (S_impl_ConfigResult) := match d with | .agg [.int .i64 a0_1, .int .i64 a0_3, .rs za0_4 .impl_Backend na0_4 fa0_4, .rs za0_5 .impl_Vip na0_5 fa0_5] => some (⟨a0_1, (⟨a0_3, (⟨za0_4, na0_4, fa0_4⟩ : (Sl S_impl_Backend)), (⟨za0_5, na0_5, fa0_5⟩ : (Sl S_impl_Vip))⟩ : S_impl_Config)⟩ : S_impl_ConfigResult) | _ => none
theorem out_impl_ConfigResult_enc (d : D RT den) (y : S_impl_ConfigResult) (h : out_impl_ConfigResult d = some y) : d = enc_impl_ConfigResult y := by
  unfold out_impl_ConfigResult at h
  split at h
  · cases h; rfl
  · cases h
def enc_impl_BytesResult_H (y : S_impl_BytesResult) : D RT den × List (Ob RT den) := ((.agg [(.int .i64 y.Code), (.os 0 y.Bytes.n)]), [(.row false .u8 y.Bytes.n y.Bytes.f)])
def out_impl_BytesResult_H (d : D RT den) (os : List (Ob RT den)) : Option (S_impl_BytesResult) := match d, os with | .agg [.int .i64 a0_1, .rs za0_2 .u8 na0_2 fa0_2], [] => some (⟨a0_1, (⟨za0_2, na0_2, fa0_2⟩ : (Sl Int))⟩ : S_impl_BytesResult) | _, _ => none
theorem out_impl_BytesResult_H_enc (d : D RT den) (os : List (Ob RT den)) (y : S_impl_BytesResult) (h : out_impl_BytesResult_H d os = some y) : (unh 0 d).1 = (enc_impl_BytesResult_H y).1 ∧ os ++ (unh 0 d).2 = (enc_impl_BytesResult_H y).2 := by
  unfold out_impl_BytesResult_H at h
  split at h
  · cases h; exact ⟨rfl, rfl⟩
  · cases h
def enc_impl_BytesResult (y : S_impl_BytesResult) : D RT den := (.agg [(.int .i64 y.Code), (.rs y.Bytes.z .u8 y.Bytes.n y.Bytes.f)])
def out_impl_BytesResult (d : D RT den) : Option (S_impl_BytesResult) := match d with | .agg [.int .i64 a0_1, .rs za0_2 .u8 na0_2 fa0_2] => some (⟨a0_1, (⟨za0_2, na0_2, fa0_2⟩ : (Sl Int))⟩ : S_impl_BytesResult) | _ => none
theorem out_impl_BytesResult_enc (d : D RT den) (y : S_impl_BytesResult) (h : out_impl_BytesResult d = some y) : d = enc_impl_BytesResult y := by
  unfold out_impl_BytesResult at h
  split at h
  · cases h; rfl
  · cases h
def enc_impl_Config (y : S_impl_Config) : D RT den := (.agg [(.int .i64 y.Version), (.rs y.Backends.z .impl_Backend y.Backends.n y.Backends.f), (.rs y.Vips.z .impl_Vip y.Vips.n y.Vips.f)])
def out_impl_Config (d : D RT den) : Option (S_impl_Config) := match d with | .agg [.int .i64 a0_1, .rs za0_2 .impl_Backend na0_2 fa0_2, .rs za0_3 .impl_Vip na0_3 fa0_3] => some (⟨a0_1, (⟨za0_2, na0_2, fa0_2⟩ : (Sl S_impl_Backend)), (⟨za0_3, na0_3, fa0_3⟩ : (Sl S_impl_Vip))⟩ : S_impl_Config) | _ => none
theorem out_impl_Config_enc (d : D RT den) (y : S_impl_Config) (h : out_impl_Config d = some y) : d = enc_impl_Config y := by
  unfold out_impl_Config at h
  split at h
  · cases h; rfl
  · cases h
def enc_impl_CmdResult (y : S_impl_CmdResult) : D RT den := (.agg [(.int .i64 y.Code), (.int .i64 y.Cmd.Kind), (.int .i64 y.Cmd.Expect), (.int .i64 y.Cmd.Name), (.int .i64 y.Cmd.Addr), (.int .i64 y.Cmd.Number), (.int .i64 y.Cmd.Proto)])
def out_impl_CmdResult (d : D RT den) : Option (S_impl_CmdResult) := match d with | .agg [.int .i64 a0_1, .int .i64 a0_3, .int .i64 a0_4, .int .i64 a0_5, .int .i64 a0_6, .int .i64 a0_7, .int .i64 a0_8] => some (⟨a0_1, (⟨a0_3, a0_4, a0_5, a0_6, a0_7, a0_8⟩ : S_impl_Cmd)⟩ : S_impl_CmdResult) | _ => none
theorem out_impl_CmdResult_enc (d : D RT den) (y : S_impl_CmdResult) (h : out_impl_CmdResult d = some y) : d = enc_impl_CmdResult y := by
  unfold out_impl_CmdResult at h
  split at h
  · cases h; rfl
  · cases h
def enc_impl_Cmd (y : S_impl_Cmd) : D RT den := (.agg [(.int .i64 y.Kind), (.int .i64 y.Expect), (.int .i64 y.Name), (.int .i64 y.Addr), (.int .i64 y.Number), (.int .i64 y.Proto)])
def out_impl_Cmd (d : D RT den) : Option (S_impl_Cmd) := match d with | .agg [.int .i64 a0_1, .int .i64 a0_2, .int .i64 a0_3, .int .i64 a0_4, .int .i64 a0_5, .int .i64 a0_6] => some (⟨a0_1, a0_2, a0_3, a0_4, a0_5, a0_6⟩ : S_impl_Cmd) | _ => none
theorem out_impl_Cmd_enc (d : D RT den) (y : S_impl_Cmd) (h : out_impl_Cmd d = some y) : d = enc_impl_Cmd y := by
  unfold out_impl_Cmd at h
  split at h
  · cases h; rfl
  · cases h
end Go.Proofs.Ytcmfekgdlaffkaa.Pq
