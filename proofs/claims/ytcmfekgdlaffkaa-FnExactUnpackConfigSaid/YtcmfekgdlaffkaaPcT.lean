/- The tables of the program's types for the value machine. Conditions: none. -/
import Derived.Test.YtcmfekgdlaffkaaVmU
import Derived.Test.YtcmfekgdlaffkaaVmO
import Derived.Test.YtcmfekgdlaffkaaProg
import Derived.KernelRfl
namespace Go.Proofs.Ytcmfekgdlaffkaa.Pc
open Go Go.RowKit Go.Proofs Vm
set_option linter.unusedVariables false
set_option linter.unusedSimpArgs false
set_option maxRecDepth 100000
structure S_impl_Backend where
  Name : Int
  Address : Int
  Weight : Int
  Stage : Int
  Up : Bool
structure S_impl_Vip where
  Address : Int
  Port : Int
  Proto : Int
  Names : (Sl Int)
structure S_spec_l6Read where
  Data : (Sl Int)
  At : Int
  Bad : Bool
structure S_impl_Config where
  Version : Int
  Backends : (Sl S_impl_Backend)
  Vips : (Sl S_impl_Vip)
structure S_impl_reader where
  left : (Sl Int)
  short : Bool
structure S_impl_ConfigResult where
  Code : Int
  Config : S_impl_Config
inductive RT where
  | i64
  | u8
  | impl_Backend
  | impl_Vip

def RT.no : RT → Nat
  | .i64 => 0
  | .u8 => 1
  | .impl_Backend => 2
  | .impl_Vip => 3

instance : DecidableEq RT := fun a b => if h : a.no = b.no then isTrue (by cases a <;> cases b <;> first | rfl | (cases h)) else isFalse (fun e => h (by rw [e]))
def den : RT → Type
  | .i64 => Int
  | .u8 => Int
  | .impl_Backend => S_impl_Backend
  | .impl_Vip => S_impl_Vip

def W_u8 (n : Int) : Prop := (Lit.int .u8 n).wf = true
def W_sl_u8 (x : (Sl Int)) : Prop := x.n ≤ maxLen ∧ ∀ i, i < x.n → W_u8 (x.f i)
def dflt : (τ : RT) → den τ
  | .i64 => (0 : Int)
  | .u8 => (0 : Int)
  | .impl_Backend => (⟨0, 0, 0, 0, false⟩ : S_impl_Backend)
  | .impl_Vip => (⟨0, 0, 0, ⟨some true, 0, fun _ => 0⟩⟩ : S_impl_Vip)

def cellsR : (τ : RT) → den τ → List (D RT den)
  | .i64, (x : Int) => [(.int .i64 x)]
  | .u8, (x : Int) => [(.int .u8 x)]
  | .impl_Backend, (x : S_impl_Backend) => [(.int .i64 x.Name), (.int .i64 x.Address), (.int .i64 x.Weight), (.int .i64 x.Stage), (.bool x.Up)]
  | .impl_Vip, (x : S_impl_Vip) => [(.int .i64 x.Address), (.int .i64 x.Port), (.int .i64 x.Proto), (.rs x.Names.z .i64 x.Names.n x.Names.f)]

def dec_i64 (cs : List (D RT den)) : Option Int := match cs with | [.int .i64 a0_0] => some a0_0 | _ => none
theorem dec_i64_cells (cs : List (D RT den)) (x : Int) (h : dec_i64 cs = some x) : cellsR .i64 x = cs := by
  unfold dec_i64 at h
  split at h
  · cases h; rfl
  · cases h
def dec_u8 (cs : List (D RT den)) : Option Int := match cs with | [.int .u8 a0_0] => some a0_0 | _ => none
theorem dec_u8_cells (cs : List (D RT den)) (x : Int) (h : dec_u8 cs = some x) : cellsR .u8 x = cs := by
  unfold dec_u8 at h
  split at h
  · cases h; rfl
  · cases h
def dec_impl_Backend (cs : List (D RT den)) : Option S_impl_Backend := match cs with | [.int .i64 a0_1, .int .i64 a0_2, .int .i64 a0_3, .int .i64 a0_4, .bool a0_5] => some (⟨a0_1, a0_2, a0_3, a0_4, a0_5⟩ : S_impl_Backend) | _ => none
theorem dec_impl_Backend_cells (cs : List (D RT den)) (x : S_impl_Backend) (h : dec_impl_Backend cs = some x) : cellsR .impl_Backend x = cs := by
  unfold dec_impl_Backend at h
  split at h
  · cases h; rfl
  · cases h
def dec_impl_Vip (cs : List (D RT den)) : Option S_impl_Vip := match cs with | [.int .i64 a0_1, .int .i64 a0_2, .int .i64 a0_3, .rs za0_4 .i64 na0_4 fa0_4] => some (⟨a0_1, a0_2, a0_3, (⟨za0_4, na0_4, fa0_4⟩ : (Sl Int))⟩ : S_impl_Vip) | _ => none
theorem dec_impl_Vip_cells (cs : List (D RT den)) (x : S_impl_Vip) (h : dec_impl_Vip cs = some x) : cellsR .impl_Vip x = cs := by
  unfold dec_impl_Vip at h
  split at h
  · cases h; rfl
  · cases h
def decR : (τ : RT) → List (D RT den) → Option (den τ)
  | .i64, cs => dec_i64 cs
  | .u8, cs => dec_u8 cs
  | .impl_Backend, cs => dec_impl_Backend cs
  | .impl_Vip, cs => dec_impl_Vip cs

def sizeR : RT → Nat
  | .i64 => 1
  | .u8 => 1
  | .impl_Backend => 5
  | .impl_Vip => 4

def sclR : RT → Bool
  | .i64 => true
  | .u8 => true
  | .impl_Backend => true
  | .impl_Vip => false

def nilR : RT → Bool
  | .i64 => false
  | .u8 => false
  | .impl_Backend => false
  | .impl_Vip => false

def bytR : RT → Bool
  | .i64 => false
  | .u8 => true
  | .impl_Backend => false
  | .impl_Vip => false

def litR : RT → Bool
  | .i64 => false
  | .u8 => false
  | .impl_Backend => false
  | .impl_Vip => false

def rtl : List (Nat × RT) := [(2, .i64), (3, .i64), (5, .u8), (61, .impl_Backend), (64, .impl_Vip)]
def zs : List (Nat × List (D RT den)) := [(2, [(.int .i64 0)]), (3, [(.int .i64 0)]), (5, [(.int .u8 0)]), (26, [(.int .i64 0), (.emp true .impl_Backend), (.emp true .impl_Vip)]), (28, [(.int .i64 0), (.int .i64 0), (.emp true .impl_Backend), (.emp true .impl_Vip)]), (57, [(.emp true .u8), (.int .i64 0), (.bool false)]), (61, [(.int .i64 0), (.int .i64 0), (.int .i64 0), (.int .i64 0), (.bool false)]), (64, [(.int .i64 0), (.int .i64 0), (.int .i64 0), (.emp true .i64)]), (70, [(.emp true .u8), (.bool false)])]
def tbl : List (Nat × TI) := [(2, ⟨1, 8, false, none, [], false, none, false, (some .i64), false⟩),
  (3, ⟨1, 8, false, none, [], false, none, false, (some .i64), false⟩),
  (4, ⟨1, 1, false, none, [], false, none, true, none, false⟩),
  (5, ⟨1, 1, false, none, [], false, none, false, (some .u8), false⟩),
  (9, ⟨1, 16, false, none, [], false, none, false, none, true⟩),
  (22, ⟨1, 24, false, some 5, [], false, none, false, none, false⟩),
  (23, ⟨1, 24, false, some 61, [], false, none, false, none, false⟩),
  (24, ⟨1, 24, false, some 64, [], false, none, false, none, false⟩),
  (26, ⟨3, 56, true, none, [(0, 2), (1, 23), (2, 24)], true, none, false, none, false⟩),
  (28, ⟨4, 64, true, none, [(0, 2), (1, 26)], true, none, false, none, false⟩),
  (57, ⟨3, 40, true, none, [(0, 22), (1, 2), (2, 4)], true, none, false, none, false⟩),
  (61, ⟨5, 40, true, none, [(0, 2), (1, 2), (2, 2), (3, 2), (4, 4)], true, none, false, none, false⟩),
  (62, ⟨1, 24, false, some 2, [], false, none, false, none, false⟩),
  (64, ⟨4, 48, true, none, [(0, 2), (1, 2), (2, 2), (3, 62)], true, none, false, none, false⟩),
  (70, ⟨2, 32, true, none, [(0, 22), (1, 4)], true, none, false, none, false⟩),
  (122, ⟨1, 8, false, none, [], false, none, false, (some .u64), false⟩),
  (148, ⟨1, 24, false, some 3, [], false, none, false, none, false⟩)]
noncomputable def fnT (f : Nat) : Option Func := match f with
  | 3 => some Try.f3
  | 6 => some Try.f6
  | 7 => some Try.f7
  | 8 => some Try.f8
  | 9 => some Try.f9
  | 10 => some Try.f10
  | 11 => some Try.f11
  | 12 => some Try.f12
  | 13 => some Try.f13
  | 30 => some Try.f30
  | 31 => some Try.f31
  | 32 => some Try.f32
  | 33 => some Try.f33
  | 34 => some Try.f34
  | 35 => some Try.f35
  | 36 => some Try.f36
  | 37 => some Try.f37
  | 38 => some Try.f38
  | 39 => some Try.f39
  | 44 => some Try.f44
  | 48 => some Try.f48
  | 58 => some Try.f58
  | 63 => some Try.f63
  | 66 => some Try.f66
  | 70 => some Try.f70
  | 71 => some Try.f71
  | 72 => some Try.f72
  | 73 => some Try.f73
  | 74 => some Try.f74
  | 75 => some Try.f75
  | 76 => some Try.f76
  | 77 => some Try.f77
  | 78 => some Try.f78
  | 79 => some Try.f79
  | 80 => some Try.f80
  | 81 => some Try.f81
  | 82 => some Try.f82
  | 83 => some Try.f83
  | 84 => some Try.f84
  | 85 => some Try.f85
  | 86 => some Try.f86
  | 87 => some Try.f87
  | 93 => some Try.f93
  | 96 => some Try.f96
  | 97 => some Try.f97
  | 98 => some Try.f98
  | 100 => some Try.f100
  | 113 => some Try.f113
  | 116 => some Try.f116
  | 117 => some Try.f117
  | 118 => some Try.f118
  | 119 => some Try.f119
  | 120 => some Try.f120
  | 121 => some Try.f121
  | 122 => some Try.f122
  | 123 => some Try.f123
  | 124 => some Try.f124
  | 125 => some Try.f125
  | 138 => some Try.f138
  | 139 => some Try.f139
  | _ => none
def parT (f : Nat) : List Nat := match f with | 83 => [22, 2, 2] | _ => []
def R : Vm.Rows RT den := ⟨fun t => rtl.lookup t, sizeR, cellsR, decR, (fun a b => decEq a b), dflt, fun t => zs.lookup t, sclR, nilR, bytR, litR⟩
noncomputable def E : Env RT den := envOf Try.prog tbl R zs fnT parT
theorem rows_ok : RowsOk R tbl where
  size := by intro τ x; cases τ <;> rfl
  dec := by
    intro τ cs x h
    cases τ
    · exact dec_i64_cells cs x h
    · exact dec_u8_cells cs x h
    · exact dec_impl_Backend_cells cs x h
    · exact dec_impl_Vip_cells cs x h
  pure := by intro τ x; cases τ <;> rfl
  scl := by intro τ h x; cases τ <;> first | rfl | cases h
  byt := by intro τ h x; cases τ <;> first | exact ⟨_, rfl⟩ | cases h
  rt := rt_of (by kernel_rfl)
theorem fn_ok : ∀ f g, fnT f = some g → Try.prog.funcs[f]? = some g := by
  intro f g h
  unfold fnT at h
  split at h <;> first | (cases h; kernel_rfl) | cases h
theorem E_ok : Ok E Try.prog := envOf_ok (by kernel_rfl) (by kernel_rfl) (by kernel_rfl) fn_ok rows_ok (by kernel_rfl)
def pcf0 : Nat → List (D RT den) → Option (Out RT den) := fun _ _ => none
def pcd0 : Nat → Bool := fun _ => false
def pcx0 : Nat → List (D RT den) → List (Ob RT den) → Option (OutX RT den) := fun _ _ _ => none
theorem hpc0 : ∀ f xs o, pcf0 f xs = some o → ∀ y, o.x = some y → Good E Try.prog f xs (o.g y) := by
  intro f xs o h
  cases h
theorem hpx0 : ∀ f xs ins o, pcx0 f xs ins = some o → ∀ y, o.x = some y → GoodXD E Try.prog (pcd0 f) (pcd0 f) f xs ins (o.g y).1 (o.g y).2 := by
  intro f xs ins o h
  cases h
def upd_impl_Backend_0_1 (f : Nat → S_impl_Backend) (j : Nat) (v0 : Int) : Nat → S_impl_Backend := fun i => if i = j then (⟨v0, (f j).Address, (f j).Weight, (f j).Stage, (f j).Up⟩ : S_impl_Backend) else f i
def upd_impl_Backend_1_1 (f : Nat → S_impl_Backend) (j : Nat) (v0 : Int) : Nat → S_impl_Backend := fun i => if i = j then (⟨(f j).Name, v0, (f j).Weight, (f j).Stage, (f j).Up⟩ : S_impl_Backend) else f i
def upd_impl_Backend_2_1 (f : Nat → S_impl_Backend) (j : Nat) (v0 : Int) : Nat → S_impl_Backend := fun i => if i = j then (⟨(f j).Name, (f j).Address, v0, (f j).Stage, (f j).Up⟩ : S_impl_Backend) else f i
def upd_impl_Backend_3_1 (f : Nat → S_impl_Backend) (j : Nat) (v0 : Int) : Nat → S_impl_Backend := fun i => if i = j then (⟨(f j).Name, (f j).Address, (f j).Weight, v0, (f j).Up⟩ : S_impl_Backend) else f i
def upd_impl_Backend_4_1 (f : Nat → S_impl_Backend) (j : Nat) (v0 : Bool) : Nat → S_impl_Backend := fun i => if i = j then (⟨(f j).Name, (f j).Address, (f j).Weight, (f j).Stage, v0⟩ : S_impl_Backend) else f i
def upd_impl_Vip_0_1 (f : Nat → S_impl_Vip) (j : Nat) (v0 : Int) : Nat → S_impl_Vip := fun i => if i = j then (⟨v0, (f j).Port, (f j).Proto, (f j).Names⟩ : S_impl_Vip) else f i
def upd_impl_Vip_1_1 (f : Nat → S_impl_Vip) (j : Nat) (v0 : Int) : Nat → S_impl_Vip := fun i => if i = j then (⟨(f j).Address, v0, (f j).Proto, (f j).Names⟩ : S_impl_Vip) else f i
def upd_impl_Vip_2_1 (f : Nat → S_impl_Vip) (j : Nat) (v0 : Int) : Nat → S_impl_Vip := fun i => if i = j then (⟨(f j).Address, (f j).Port, v0, (f j).Names⟩ : S_impl_Vip) else f i
def upd_impl_Vip_3_1 (f : Nat → S_impl_Vip) (j : Nat) (v0 : (Sl Int)) : Nat → S_impl_Vip := fun i => if i = j then (⟨(f j).Address, (f j).Port, (f j).Proto, v0⟩ : S_impl_Vip) else f i
def enc_sl_u8_H (y : (Sl Int)) : D RT den × List (Ob RT den) := ((.os 0 y.n), [(.row false .u8 y.n y.f)])
def out_sl_u8_H (d : D RT den) (os : List (Ob RT den)) : Option ((Sl Int)) := match d, os with | .rs za0_0 .u8 na0_0 fa0_0, [] => some (⟨za0_0, na0_0, fa0_0⟩ : (Sl Int)) | _, _ => none
theorem out_sl_u8_H_enc (d : D RT den) (os : List (Ob RT den)) (y : (Sl Int)) (h : out_sl_u8_H d os = some y) : (unh 0 d).1 = (enc_sl_u8_H y).1 ∧ os ++ (unh 0 d).2 = (enc_sl_u8_H y).2 := by
  unfold out_sl_u8_H at h
  split at h
  · cases h; exact ⟨rfl, rfl⟩
  · cases h
def enc_i64 (y : Int) : D RT den := (.int .i64 y)
def out_i64 (d : D RT den) : Option (Int) := match d with | .int .i64 a0_0 => some a0_0 | _ => none
theorem out_i64_enc (d : D RT den) (y : Int) (h : out_i64 d = some y) : d = enc_i64 y := by
  unfold out_i64 at h
  split at h
  · cases h; rfl
  · cases h
def enc_bo (y : Bool) : D RT den := (.bool y)
def out_bo (d : D RT den) : Option (Bool) := match d with | .bool a0_0 => some a0_0 | _ => none
theorem out_bo_enc (d : D RT den) (y : Bool) (h : out_bo d = some y) : d = enc_bo y := by
  unfold out_bo at h
  split at h
  · cases h; rfl
  · cases h
end Go.Proofs.Ytcmfekgdlaffkaa.Pc
