/- The tables of the program's types for the value machine. Conditions: none. -/
import Derived.Test.YtcmfekgdlaffkaaGreatDoorVmU
import Derived.Test.YtcmfekgdlaffkaaGreatDoorVmO
import Derived.Test.YtcmfekgdlaffkaaGreatDoorProg
import Derived.Lib.ItoaNum
import Derived.KernelRfl
namespace Go.Proofs.YtcmfekgdlaffkaaGreatDoor.Px
open Go Go.RowKit Go.Proofs Vm
set_option linter.unusedVariables false
set_option linter.unusedSimpArgs false
set_option maxRecDepth 100000
structure S_impl_Backend where
  Name : Int
  Address : Int
  Weight : Int
  Stage : Int
  Up : Bool
structure S_impl_Vip where
  Address : Int
  Port : Int
  Proto : Int
  Names : (Sl Int)
structure S_laws_Config where
  Version : Int
  Backends : (Sl S_impl_Backend)
  Vips : (Sl S_impl_Vip)
structure S_laws_Watch where
  Ready : Bool
  Config : S_laws_Config
structure S_impl_Flow where
  From : Int
  To : Int
  Proto : Int
  FromP : Int
  ToP : Int
structure S_laws_Held where
  Flow : S_impl_Flow
  Name : Int
  Seen : Int
structure S_laws_Mux where
  Address : Int
  Now : Int
  Watch : S_laws_Watch
  Tables : (Sl (Sl Int))
  Cache : (Sl S_laws_Held)
structure S_impl_Held where
  Flow : S_impl_Flow
  Name : Int
  Seen : Int
structure S_impl_Config where
  Version : Int
  Backends : (Sl S_impl_Backend)
  Vips : (Sl S_impl_Vip)
structure S_impl_Watch where
  Ready : Bool
  Config : S_impl_Config
structure S_impl_Mux where
  Address : Int
  Now : Int
  Watch : S_impl_Watch
  Tables : (Sl (Sl Int))
  Cache : (Sl S_impl_Held)
structure S_impl_Share where
  Name : Int
  Weight : Int
structure S_impl_TextResult where
  Code : Int
  Text : ByteArray
structure S_impl_Packet where
  From : Int
  To : Int
  Proto : Int
  FromP : Int
  ToP : Int
  Load : (Sl Int)
inductive RT where
  | i64
  | impl_Backend
  | impl_Vip
  | sl_i64
  | laws_Held
  | impl_Held
  | impl_Share
  | u8

def RT.no : RT → Nat
  | .i64 => 0
  | .impl_Backend => 1
  | .impl_Vip => 2
  | .sl_i64 => 3
  | .laws_Held => 4
  | .impl_Held => 5
  | .impl_Share => 6
  | .u8 => 7

instance : DecidableEq RT := fun a b => if h : a.no = b.no then isTrue (by cases a <;> cases b <;> first | rfl | (cases h)) else isFalse (fun e => h (by rw [e]))
def den : RT → Type
  | .i64 => Int
  | .impl_Backend => S_impl_Backend
  | .impl_Vip => S_impl_Vip
  | .sl_i64 => (Sl Int)
  | .laws_Held => S_laws_Held
  | .impl_Held => S_impl_Held
  | .impl_Share => S_impl_Share
  | .u8 => Int

def W_i64 (n : Int) : Prop := (Lit.int .i64 n).wf = true
def W_bo (b : Bool) : Prop := True
def W_impl_Backend (x : S_impl_Backend) : Prop := W_i64 x.Name ∧ W_i64 x.Address ∧ W_i64 x.Weight ∧ W_i64 x.Stage ∧ W_bo x.Up
def W_sl_impl_Backend (x : (Sl S_impl_Backend)) : Prop := x.n ≤ maxLen ∧ ∀ i, i < x.n → W_impl_Backend (x.f i)
def W_sl_i64 (x : (Sl Int)) : Prop := x.n ≤ maxLen ∧ ∀ i, i < x.n → W_i64 (x.f i)
def W_impl_Vip (x : S_impl_Vip) : Prop := W_i64 x.Address ∧ W_i64 x.Port ∧ W_i64 x.Proto ∧ W_sl_i64 x.Names
def W_sl_impl_Vip (x : (Sl S_impl_Vip)) : Prop := x.n ≤ maxLen ∧ ∀ i, i < x.n → W_impl_Vip (x.f i)
def W_laws_Config (x : S_laws_Config) : Prop := W_i64 x.Version ∧ W_sl_impl_Backend x.Backends ∧ W_sl_impl_Vip x.Vips
def W_laws_Watch (x : S_laws_Watch) : Prop := W_bo x.Ready ∧ W_laws_Config x.Config
def W_sl_sl_i64 (x : (Sl (Sl Int))) : Prop := x.n ≤ maxLen ∧ ∀ i, i < x.n → W_sl_i64 (x.f i)
def W_impl_Flow (x : S_impl_Flow) : Prop := W_i64 x.From ∧ W_i64 x.To ∧ W_i64 x.Proto ∧ W_i64 x.FromP ∧ W_i64 x.ToP
def W_laws_Held (x : S_laws_Held) : Prop := W_impl_Flow x.Flow ∧ W_i64 x.Name ∧ W_i64 x.Seen
def W_sl_laws_Held (x : (Sl S_laws_Held)) : Prop := x.n ≤ maxLen ∧ ∀ i, i < x.n → W_laws_Held (x.f i)
def W_laws_Mux (x : S_laws_Mux) : Prop := W_i64 x.Address ∧ W_i64 x.Now ∧ W_laws_Watch x.Watch ∧ W_sl_sl_i64 x.Tables ∧ W_sl_laws_Held x.Cache
def dflt : (τ : RT) → den τ
  | .i64 => (0 : Int)
  | .impl_Backend => (⟨0, 0, 0, 0, false⟩ : S_impl_Backend)
  | .impl_Vip => (⟨0, 0, 0, ⟨some true, 0, fun _ => 0⟩⟩ : S_impl_Vip)
  | .sl_i64 => (⟨some true, 0, fun _ => 0⟩ : (Sl Int))
  | .laws_Held => (⟨⟨0, 0, 0, 0, 0⟩, 0, 0⟩ : S_laws_Held)
  | .impl_Held => (⟨⟨0, 0, 0, 0, 0⟩, 0, 0⟩ : S_impl_Held)
  | .impl_Share => (⟨0, 0⟩ : S_impl_Share)
  | .u8 => (0 : Int)

def cellsR : (τ : RT) → den τ → List (D RT den)
  | .i64, (x : Int) => [(.int .i64 x)]
  | .impl_Backend, (x : S_impl_Backend) => [(.int .i64 x.Name), (.int .i64 x.Address), (.int .i64 x.Weight), (.int .i64 x.Stage), (.bool x.Up)]
  | .impl_Vip, (x : S_impl_Vip) => [(.int .i64 x.Address), (.int .i64 x.Port), (.int .i64 x.Proto), (.rs x.Names.z .i64 x.Names.n x.Names.f)]
  | .sl_i64, (x : (Sl Int)) => [(.rs x.z .i64 x.n x.f)]
  | .laws_Held, (x : S_laws_Held) => [(.int .i64 x.Flow.From), (.int .i64 x.Flow.To), (.int .i64 x.Flow.Proto), (.int .i64 x.Flow.FromP), (.int .i64 x.Flow.ToP), (.int .i64 x.Name), (.int .i64 x.Seen)]
  | .impl_Held, (x : S_impl_Held) => [(.int .i64 x.Flow.From), (.int .i64 x.Flow.To), (.int .i64 x.Flow.Proto), (.int .i64 x.Flow.FromP), (.int .i64 x.Flow.ToP), (.int .i64 x.Name), (.int .i64 x.Seen)]
  | .impl_Share, (x : S_impl_Share) => [(.int .i64 x.Name), (.int .i64 x.Weight)]
  | .u8, (x : Int) => [(.int .u8 x)]

def dec_i64 (cs : List (D RT den)) : Option Int := match cs with | [.int .i64 a0_0] => some a0_0 | _ => none
theorem dec_i64_cells (cs : List (D RT den)) (x : Int) (h : dec_i64 cs = some x) : cellsR .i64 x = cs := by
  unfold dec_i64 at h
  split at h
  · cases h; rfl
  · cases h
def dec_impl_Backend (cs : List (D RT den)) : Option S_impl_Backend := match cs with | [.int .i64 a0_1, .int .i64 a0_2, .int .i64 a0_3, .int .i64 a0_4, .bool a0_5] => some (⟨a0_1, a0_2, a0_3, a0_4, a0_5⟩ : S_impl_Backend) | _ => none
theorem dec_impl_Backend_cells (cs : List (D RT den)) (x : S_impl_Backend) (h : dec_impl_Backend cs = some x) : cellsR .impl_Backend x = cs := by
  unfold dec_impl_Backend at h
  split at h
  · cases h; rfl
  · cases h
def dec_impl_Vip (cs : List (D RT den)) : Option S_impl_Vip := match cs with | [.int .i64 a0_1, .int .i64 a0_2, .int .i64 a0_3, .rs za0_4 .i64 na0_4 fa0_4] => some (⟨a0_1, a0_2, a0_3, (⟨za0_4, na0_4, fa0_4⟩ : (Sl Int))⟩ : S_impl_Vip) | _ => none
theorem dec_impl_Vip_cells (cs : List (D RT den)) (x : S_impl_Vip) (h : dec_impl_Vip cs = some x) : cellsR .impl_Vip x = cs := by
  unfold dec_impl_Vip at h
  split at h
  · cases h; rfl
  · cases h
def dec_sl_i64 (cs : List (D RT den)) : Option (Sl Int) := match cs with | [.rs za0_0 .i64 na0_0 fa0_0] => some (⟨za0_0, na0_0, fa0_0⟩ : (Sl Int)) | _ => none
theorem dec_sl_i64_cells (cs : List (D RT den)) (x : (Sl Int)) (h : dec_sl_i64 cs = some x) : cellsR .sl_i64 x = cs := by
  unfold dec_sl_i64 at h
  split at h
  · cases h; rfl
  · cases h
def dec_laws_Held (cs : List (D RT den)) : Option S_laws_Held := match cs with | [.int .i64 a0_2, .int .i64 a0_3, .int .i64 a0_4, .int .i64 a0_5, .int .i64 a0_6, .int .i64 a0_7, .int .i64 a0_8] => some (⟨(⟨a0_2, a0_3, a0_4, a0_5, a0_6⟩ : S_impl_Flow), a0_7, a0_8⟩ : S_laws_Held) | _ => none
theorem dec_laws_Held_cells (cs : List (D RT den)) (x : S_laws_Held) (h : dec_laws_Held cs = some x) : cellsR .laws_Held x = cs := by
  unfold dec_laws_Held at h
  split at h
  · cases h; rfl
  · cases h
def dec_impl_Held (cs : List (D RT den)) : Option S_impl_Held := match cs with | [.int .i64 a0_2, .int .i64 a0_3, .int .i64 a0_4, .int .i64 a0_5, .int .i64 a0_6, .int .i64 a0_7, .int .i64 a0_8] => some (⟨(⟨a0_2, a0_3, a0_4, a0_5, a0_6⟩ : S_impl_Flow), a0_7, a0_8⟩ : S_impl_Held) | _ => none
theorem dec_impl_Held_cells (cs : List (D RT den)) (x : S_impl_Held) (h : dec_impl_Held cs = some x) : cellsR .impl_Held x = cs := by
  unfold dec_impl_Held at h
  split at h
  · cases h; rfl
  · cases h
def dec_impl_Share (cs : List (D RT den)) : Option S_impl_Share := match cs with | [.int .i64 a0_1, .int .i64 a0_2] => some (⟨a0_1, a0_2⟩ : S_impl_Share) | _ => none
theorem dec_impl_Share_cells (cs : List (D RT den)) (x : S_impl_Share) (h : dec_impl_Share cs = some x) : cellsR .impl_Share x = cs := by
  unfold dec_impl_Share at h
  split at h
  · cases h; rfl
  · cases h
def dec_u8 (cs : List (D RT den)) : Option Int := match cs with | [.int .u8 a0_0] => some a0_0 | _ => none
theorem dec_u8_cells (cs : List (D RT den)) (x : Int) (h : dec_u8 cs = some x) : cellsR .u8 x = cs := by
  unfold dec_u8 at h
  split at h
  · cases h; rfl
  · cases h
def decR : (τ : RT) → List (D RT den) → Option (den τ)
  | .i64, cs => dec_i64 cs
  | .impl_Backend, cs => dec_impl_Backend cs
  | .impl_Vip, cs => dec_impl_Vip cs
  | .sl_i64, cs => dec_sl_i64 cs
  | .laws_Held, cs => dec_laws_Held cs
  | .impl_Held, cs => dec_impl_Held cs
  | .impl_Share, cs => dec_impl_Share cs
  | .u8, cs => dec_u8 cs

def sizeR : RT → Nat
  | .i64 => 1
  | .impl_Backend => 5
  | .impl_Vip => 4
  | .sl_i64 => 1
  | .laws_Held => 7
  | .impl_Held => 7
  | .impl_Share => 2
  | .u8 => 1

def sclR : RT → Bool
  | .i64 => true
  | .impl_Backend => true
  | .impl_Vip => false
  | .sl_i64 => false
  | .laws_Held => true
  | .impl_Held => true
  | .impl_Share => true
  | .u8 => true

def nilR : RT → Bool
  | .i64 => false
  | .impl_Backend => false
  | .impl_Vip => false
  | .sl_i64 => false
  | .laws_Held => false
  | .impl_Held => false
  | .impl_Share => false
  | .u8 => false

def bytR : RT → Bool
  | .i64 => false
  | .impl_Backend => false
  | .impl_Vip => false
  | .sl_i64 => false
  | .laws_Held => false
  | .impl_Held => false
  | .impl_Share => false
  | .u8 => true

def litR : RT → Bool
  | .i64 => false
  | .impl_Backend => false
  | .impl_Vip => false
  | .sl_i64 => false
  | .laws_Held => false
  | .impl_Held => false
  | .impl_Share => false
  | .u8 => false

def rtl : List (Nat × RT) := [(2, .i64), (3, .i64), (5, .u8), (59, .impl_Held), (70, .sl_i64), (83, .laws_Held), (116, .impl_Vip), (118, .impl_Backend), (125, .impl_Vip), (130, .impl_Share), (135, .impl_Backend)]
def zs : List (Nat × List (D RT den)) := [(2, [(.int .i64 0)]), (3, [(.int .i64 0)]), (5, [(.int .u8 0)]), (34, [(.int .i64 0), (.str (⟨#[]⟩ : ByteArray))]), (39, [(.int .i64 0), (.emp true .impl_Backend), (.emp true .impl_Vip)]), (41, [(.bool false), (.int .i64 0), (.emp true .impl_Backend), (.emp true .impl_Vip)]), (44, [(.int .i64 0), (.int .i64 0), (.bool false), (.int .i64 0), (.emp true .impl_Backend), (.emp true .impl_Vip), (.emp true .sl_i64), (.emp true .impl_Held)]), (57, [(.int .i64 0), (.int .i64 0), (.int .i64 0), (.int .i64 0), (.int .i64 0)]), (59, [(.int .i64 0), (.int .i64 0), (.int .i64 0), (.int .i64 0), (.int .i64 0), (.int .i64 0), (.int .i64 0)]), (70, [(.emp true .i64)]), (111, [(.int .i64 0), (.int .i64 0), (.int .i64 0), (.int .i64 0), (.int .i64 0), (.emp true .u8)]), (116, [(.int .i64 0), (.int .i64 0), (.int .i64 0), (.emp true .i64)]), (118, [(.int .i64 0), (.int .i64 0), (.int .i64 0), (.int .i64 0), (.bool false)]), (130, [(.int .i64 0), (.int .i64 0)])]
def tbl : List (Nat × TI) := [(2, ⟨1, 8, false, none, [], false, none, false, (some .i64), false⟩),
  (3, ⟨1, 8, false, none, [], false, none, false, none, false⟩),
  (4, ⟨1, 1, false, none, [], false, none, true, none, false⟩),
  (5, ⟨1, 1, false, none, [], false, none, false, (some .u8), false⟩),
  (9, ⟨1, 16, false, none, [], false, none, false, none, true⟩),
  (22, ⟨1, 24, false, some 135, [], false, none, false, none, false⟩),
  (23, ⟨1, 24, false, some 125, [], false, none, false, none, false⟩),
  (25, ⟨3, 56, true, none, [(0, 2), (1, 22), (2, 23)], false, none, false, none, false⟩),
  (27, ⟨4, 64, true, none, [(0, 4), (1, 25)], false, none, false, none, false⟩),
  (28, ⟨1, 24, false, some 70, [], false, none, false, none, false⟩),
  (29, ⟨1, 24, false, some 83, [], false, none, false, none, false⟩),
  (31, ⟨8, 128, true, none, [(0, 2), (1, 2), (2, 27), (6, 28), (7, 29)], false, none, false, none, false⟩),
  (34, ⟨2, 24, true, none, [(0, 2), (1, 9)], true, none, false, none, false⟩),
  (36, ⟨1, 24, false, some 118, [], false, none, false, none, false⟩),
  (37, ⟨1, 24, false, some 116, [], false, none, false, none, false⟩),
  (39, ⟨3, 56, true, none, [(0, 2), (1, 36), (2, 37)], false, none, false, none, false⟩),
  (41, ⟨4, 64, true, none, [(0, 4), (1, 39)], false, none, false, none, false⟩),
  (42, ⟨1, 24, false, some 59, [], false, none, false, none, false⟩),
  (44, ⟨8, 128, true, none, [(0, 2), (1, 2), (2, 41), (6, 28), (7, 42)], false, none, false, none, false⟩),
  (57, ⟨5, 40, true, none, [(0, 2), (1, 2), (2, 2), (3, 2), (4, 2)], false, (some [true, true, true, true, true]), false, none, false⟩),
  (59, ⟨7, 56, true, none, [(0, 57), (5, 2), (6, 2)], false, none, false, none, false⟩),
  (70, ⟨1, 24, false, some 2, [], false, none, false, none, false⟩),
  (76, ⟨1, 24, false, some 5, [], false, none, false, none, false⟩),
  (81, ⟨5, 40, true, none, [(0, 2), (1, 2), (2, 2), (3, 2), (4, 2)], false, none, false, none, false⟩),
  (83, ⟨7, 56, true, none, [(0, 81), (5, 2), (6, 2)], false, none, false, none, false⟩),
  (98, ⟨1, 24, false, some 130, [], false, none, false, none, false⟩),
  (102, ⟨1, 8, false, none, [], false, none, false, (some .u64), false⟩),
  (111, ⟨6, 64, true, none, [(0, 2), (1, 2), (2, 2), (3, 2), (4, 2), (5, 76)], true, none, false, none, false⟩),
  (116, ⟨4, 48, true, none, [(0, 2), (1, 2), (2, 2), (3, 70)], false, none, false, none, false⟩),
  (118, ⟨5, 40, true, none, [(0, 2), (1, 2), (2, 2), (3, 2), (4, 4)], false, none, false, none, false⟩),
  (125, ⟨4, 48, true, none, [(0, 2), (1, 2), (2, 2), (3, 70)], false, none, false, none, false⟩),
  (130, ⟨2, 16, true, none, [(0, 2), (1, 2)], true, none, false, none, false⟩),
  (135, ⟨5, 40, true, none, [(0, 2), (1, 2), (2, 2), (3, 2), (4, 4)], false, none, false, none, false⟩),
  (162, ⟨1, 24, false, some 3, [], false, none, false, none, false⟩)]
noncomputable def fnT (f : Nat) : Option Func := match f with
  | 3 => some Tryz.f3
  | 4 => some Tryz.f4
  | 5 => some Tryz.f5
  | 6 => some Tryz.f6
  | 7 => some Tryz.f7
  | 8 => some Tryz.f8
  | 9 => some Tryz.f9
  | 10 => some Tryz.f10
  | 11 => some Tryz.f11
  | 12 => some Tryz.f12
  | 13 => some Tryz.f13
  | 14 => some Tryz.f14
  | 15 => some Tryz.f15
  | 16 => some Tryz.f16
  | 17 => some Tryz.f17
  | 18 => some Tryz.f18
  | 19 => some Tryz.f19
  | 20 => some Tryz.f20
  | 21 => some Tryz.f21
  | 22 => some Tryz.f22
  | 23 => some Tryz.f23
  | 24 => some Tryz.f24
  | 25 => some Tryz.f25
  | 26 => some Tryz.f26
  | 27 => some Tryz.f27
  | 28 => some Tryz.f28
  | 29 => some Tryz.f29
  | 30 => some Tryz.f30
  | 31 => some Tryz.f31
  | 32 => some Tryz.f32
  | 33 => some Tryz.f33
  | 34 => some Tryz.f34
  | 35 => some Tryz.f35
  | 36 => some Tryz.f36
  | 37 => some Tryz.f37
  | 38 => some Tryz.f38
  | 39 => some Tryz.f39
  | 40 => some Tryz.f40
  | 41 => some Tryz.f41
  | 42 => some Tryz.f42
  | 43 => some Tryz.f43
  | 44 => some Tryz.f44
  | 45 => some Tryz.f45
  | 46 => some Tryz.f46
  | 47 => some Tryz.f47
  | 48 => some Tryz.f48
  | 49 => some Tryz.f49
  | 50 => some Tryz.f50
  | 51 => some Tryz.f51
  | 52 => some Tryz.f52
  | 53 => some Tryz.f53
  | 54 => some Tryz.f54
  | 55 => some Tryz.f55
  | 56 => some Tryz.f56
  | 57 => some Tryz.f57
  | 58 => some Tryz.f58
  | 59 => some Tryz.f59
  | 60 => some Tryz.f60
  | 61 => some Tryz.f61
  | 62 => some Tryz.f62
  | 63 => some Tryz.f63
  | 64 => some Tryz.f64
  | 65 => some Tryz.f65
  | 66 => some Tryz.f66
  | 67 => some Tryz.f67
  | 68 => some Tryz.f68
  | 69 => some Tryz.f69
  | 70 => some Tryz.f70
  | 71 => some Tryz.f71
  | 72 => some Tryz.f72
  | 73 => some Tryz.f73
  | 74 => some Tryz.f74
  | 76 => some Tryz.f76
  | 77 => some Tryz.f77
  | 78 => some Tryz.f78
  | 79 => some Tryz.f79
  | 80 => some Tryz.f80
  | 81 => some Tryz.f81
  | 82 => some Tryz.f82
  | 83 => some Tryz.f83
  | 84 => some Tryz.f84
  | 85 => some Tryz.f85
  | 86 => some Tryz.f86
  | 87 => some Tryz.f87
  | 88 => some Tryz.f88
  | 89 => some Tryz.f89
  | 90 => some Tryz.f90
  | 91 => some Tryz.f91
  | 92 => some Tryz.f92
  | 93 => some Tryz.f93
  | 94 => some Tryz.f94
  | 95 => some Tryz.f95
  | 96 => some Tryz.f96
  | 97 => some Tryz.f97
  | 98 => some Tryz.f98
  | 99 => some Tryz.f99
  | 100 => some Tryz.f100
  | 101 => some Tryz.f101
  | 102 => some Tryz.f102
  | 103 => some Tryz.f103
  | 105 => some Tryz.f105
  | 106 => some Tryz.f106
  | 107 => some Tryz.f107
  | 108 => some Tryz.f108
  | 109 => some Tryz.f109
  | 110 => some Tryz.f110
  | 111 => some Tryz.f111
  | 112 => some Tryz.f112
  | 113 => some Tryz.f113
  | 114 => some Tryz.f114
  | 115 => some Tryz.f115
  | 116 => some Tryz.f116
  | 117 => some Tryz.f117
  | 118 => some Tryz.f118
  | 119 => some Tryz.f119
  | 124 => some Tryz.f124
  | 125 => some Tryz.f125
  | 126 => some Tryz.f126
  | 127 => some Tryz.f127
  | 133 => some Tryz.f133
  | 134 => some Tryz.f134
  | 137 => some Tryz.f137
  | _ => none
def parT (f : Nat) : List Nat := []
def R : Vm.Rows RT den := ⟨fun t => rtl.lookup t, sizeR, cellsR, decR, (fun a b => decEq a b), dflt, fun t => zs.lookup t, sclR, nilR, bytR, litR⟩
noncomputable def E : Env RT den := envOf Tryz.prog tbl R zs fnT parT (fun g => match g with | 0 => some ((Go.Lib.pow10Tab.map fun z => Value.int .u64 z).toArray) | _ => none)
theorem rows_ok : RowsOk R tbl where
  size := by intro τ x; cases τ <;> rfl
  dec := by
    intro τ cs x h
    cases τ
    · exact dec_i64_cells cs x h
    · exact dec_impl_Backend_cells cs x h
    · exact dec_impl_Vip_cells cs x h
    · exact dec_sl_i64_cells cs x h
    · exact dec_laws_Held_cells cs x h
    · exact dec_impl_Held_cells cs x h
    · exact dec_impl_Share_cells cs x h
    · exact dec_u8_cells cs x h
  pure := by intro τ x; cases τ <;> rfl
  scl := by intro τ h x; cases τ <;> first | rfl | cases h
  byt := by intro τ h x; cases τ <;> first | exact ⟨_, rfl⟩ | cases h
  rt := rt_of (by kernel_rfl)
theorem fn_ok : ∀ f g, fnT f = some g → Tryz.prog.funcs[f]? = some g := by
  intro f g h
  unfold fnT at h
  split at h <;> first | (cases h; kernel_rfl) | cases h
theorem E_ok : Ok E Tryz.prog := envOf_ok (by kernel_rfl) (by kernel_rfl) (by kernel_rfl) fn_ok rows_ok (by kernel_rfl)
def pcf0 : Nat → List (D RT den) → Option (Out RT den) := fun _ _ => none
def pcd0 : Nat → Bool := fun _ => false
def pcx0 : Nat → List (D RT den) → List (Ob RT den) → Option (OutX RT den) := fun _ _ _ => none
theorem hpc0 : ∀ f xs o, pcf0 f xs = some o → ∀ y, o.x = some y → Good E Tryz.prog f xs (o.g y) := by
  intro f xs o h
  cases h
theorem hpx0 : ∀ f xs ins o, pcx0 f xs ins = some o → ∀ y, o.x = some y → GoodXD E Tryz.prog (pcd0 f) (pcd0 f) f xs ins (o.g y).1 (o.g y).2 := by
  intro f xs ins o h
  cases h
def enc_impl_Backend (y : S_impl_Backend) : D RT den := (.agg [(.int .i64 y.Name), (.int .i64 y.Address), (.int .i64 y.Weight), (.int .i64 y.Stage), (.bool y.Up)])
def out_impl_Backend (d : D RT den) : Option (S_impl_Backend) := match d with | .agg [.int .i64 a0_1, .int .i64 a0_2, .int .i64 a0_3, .int .i64 a0_4, .bool a0_5] => some (⟨a0_1, a0_2, a0_3, a0_4, a0_5⟩ : S_impl_Backend) | _ => none
theorem out_impl_Backend_enc (d : D RT den) (y : S_impl_Backend) (h : out_impl_Backend d = some y) : d = enc_impl_Backend y := by
  unfold out_impl_Backend at h
  split at h
  · cases h; rfl
  · cases h
def enc_sl_impl_Backend (y : (Sl S_impl_Backend)) : D RT den := (.rs y.z .impl_Backend y.n y.f)
def out_sl_impl_Backend (d : D RT den) : Option ((Sl S_impl_Backend)) := match d with | .rs za0_0 .impl_Backend na0_0 fa0_0 => some (⟨za0_0, na0_0, fa0_0⟩ : (Sl S_impl_Backend)) | _ => none
theorem out_sl_impl_Backend_enc (d : D RT den) (y : (Sl S_impl_Backend)) (h : out_sl_impl_Backend d = some y) : d = enc_sl_impl_Backend y := by
  unfold out_sl_impl_Backend at h
  split at h
  · cases h; rfl
  · cases h
def enc_sl_i64 (y : (Sl Int)) : D RT den := (.rs y.z .i64 y.n y.f)
def out_sl_i64 (d : D RT den) : Option ((Sl Int)) := match d with | .rs za0_0 .i64 na0_0 fa0_0 => some (⟨za0_0, na0_0, fa0_0⟩ : (Sl Int)) | _ => none
theorem out_sl_i64_enc (d : D RT den) (y : (Sl Int)) (h : out_sl_i64 d = some y) : d = enc_sl_i64 y := by
  unfold out_sl_i64 at h
  split at h
  · cases h; rfl
  · cases h
def enc_impl_Vip (y : S_impl_Vip) : D RT den := (.agg [(.int .i64 y.Address), (.int .i64 y.Port), (.int .i64 y.Proto), (.rs y.Names.z .i64 y.Names.n y.Names.f)])
def out_impl_Vip (d : D RT den) : Option (S_impl_Vip) := match d with | .agg [.int .i64 a0_1, .int .i64 a0_2, .int .i64 a0_3, .rs za0_4 .i64 na0_4 fa0_4] => some (⟨a0_1, a0_2, a0_3, (⟨za0_4, na0_4, fa0_4⟩ : (Sl Int))⟩ : S_impl_Vip) | _ => none
theorem out_impl_Vip_enc (d : D RT den) (y : S_impl_Vip) (h : out_impl_Vip d = some y) : d = enc_impl_Vip y := by
  unfold out_impl_Vip at h
  split at h
  · cases h; rfl
  · cases h
def enc_sl_impl_Vip (y : (Sl S_impl_Vip)) : D RT den := (.rs y.z .impl_Vip y.n y.f)
def out_sl_impl_Vip (d : D RT den) : Option ((Sl S_impl_Vip)) := match d with | .rs za0_0 .impl_Vip na0_0 fa0_0 => some (⟨za0_0, na0_0, fa0_0⟩ : (Sl S_impl_Vip)) | _ => none
theorem out_sl_impl_Vip_enc (d : D RT den) (y : (Sl S_impl_Vip)) (h : out_sl_impl_Vip d = some y) : d = enc_sl_impl_Vip y := by
  unfold out_sl_impl_Vip at h
  split at h
  · cases h; rfl
  · cases h
def enc_impl_Config (y : S_impl_Config) : D RT den := (.agg [(.int .i64 y.Version), (.rs y.Backends.z .impl_Backend y.Backends.n y.Backends.f), (.rs y.Vips.z .impl_Vip y.Vips.n y.Vips.f)])
def out_impl_Config (d : D RT den) : Option (S_impl_Config) := match d with | .agg [.int .i64 a0_1, .rs za0_2 .impl_Backend na0_2 fa0_2, .rs za0_3 .impl_Vip na0_3 fa0_3] => some (⟨a0_1, (⟨za0_2, na0_2, fa0_2⟩ : (Sl S_impl_Backend)), (⟨za0_3, na0_3, fa0_3⟩ : (Sl S_impl_Vip))⟩ : S_impl_Config) | _ => none
theorem out_impl_Config_enc (d : D RT den) (y : S_impl_Config) (h : out_impl_Config d = some y) : d = enc_impl_Config y := by
  unfold out_impl_Config at h
  split at h
  · cases h; rfl
  · cases h
def enc_impl_Watch (y : S_impl_Watch) : D RT den := (.agg [(.bool y.Ready), (.int .i64 y.Config.Version), (.rs y.Config.Backends.z .impl_Backend y.Config.Backends.n y.Config.Backends.f), (.rs y.Config.Vips.z .impl_Vip y.Config.Vips.n y.Config.Vips.f)])
def out_impl_Watch (d : D RT den) : Option (S_impl_Watch) := match d with | .agg [.bool a0_1, .int .i64 a0_3, .rs za0_4 .impl_Backend na0_4 fa0_4, .rs za0_5 .impl_Vip na0_5 fa0_5] => some (⟨a0_1, (⟨a0_3, (⟨za0_4, na0_4, fa0_4⟩ : (Sl S_impl_Backend)), (⟨za0_5, na0_5, fa0_5⟩ : (Sl S_impl_Vip))⟩ : S_impl_Config)⟩ : S_impl_Watch) | _ => none
theorem out_impl_Watch_enc (d : D RT den) (y : S_impl_Watch) (h : out_impl_Watch d = some y) : d = enc_impl_Watch y := by
  unfold out_impl_Watch at h
  split at h
  · cases h; rfl
  · cases h
def enc_sl_sl_i64 (y : (Sl (Sl Int))) : D RT den := (.rs y.z .sl_i64 y.n y.f)
def out_sl_sl_i64 (d : D RT den) : Option ((Sl (Sl Int))) := match d with | .rs za0_0 .sl_i64 na0_0 fa0_0 => some (⟨za0_0, na0_0, fa0_0⟩ : (Sl (Sl Int))) | _ => none
theorem out_sl_sl_i64_enc (d : D RT den) (y : (Sl (Sl Int))) (h : out_sl_sl_i64 d = some y) : d = enc_sl_sl_i64 y := by
  unfold out_sl_sl_i64 at h
  split at h
  · cases h; rfl
  · cases h
def enc_impl_Flow (y : S_impl_Flow) : D RT den := (.agg [(.int .i64 y.From), (.int .i64 y.To), (.int .i64 y.Proto), (.int .i64 y.FromP), (.int .i64 y.ToP)])
def out_impl_Flow (d : D RT den) : Option (S_impl_Flow) := match d with | .agg [.int .i64 a0_1, .int .i64 a0_2, .int .i64 a0_3, .int .i64 a0_4, .int .i64 a0_5] => some (⟨a0_1, a0_2, a0_3, a0_4, a0_5⟩ : S_impl_Flow) | _ => none
theorem out_impl_Flow_enc (d : D RT den) (y : S_impl_Flow) (h : out_impl_Flow d = some y) : d = enc_impl_Flow y := by
  unfold out_impl_Flow at h
  split at h
  · cases h; rfl
  · cases h
def enc_impl_Held (y : S_impl_Held) : D RT den := (.agg [(.int .i64 y.Flow.From), (.int .i64 y.Flow.To), (.int .i64 y.Flow.Proto), (.int .i64 y.Flow.FromP), (.int .i64 y.Flow.ToP), (.int .i64 y.Name), (.int .i64 y.Seen)])
def out_impl_Held (d : D RT den) : Option (S_impl_Held) := match d with | .agg [.int .i64 a0_2, .int .i64 a0_3, .int .i64 a0_4, .int .i64 a0_5, .int .i64 a0_6, .int .i64 a0_7, .int .i64 a0_8] => some (⟨(⟨a0_2, a0_3, a0_4, a0_5, a0_6⟩ : S_impl_Flow), a0_7, a0_8⟩ : S_impl_Held) | _ => none
theorem out_impl_Held_enc (d : D RT den) (y : S_impl_Held) (h : out_impl_Held d = some y) : d = enc_impl_Held y := by
  unfold out_impl_Held at h
  split at h
  · cases h; rfl
  · cases h
def enc_sl_impl_Held (y : (Sl S_impl_Held)) : D RT den := (.rs y.z .impl_Held y.n y.f)
def out_sl_impl_Held (d : D RT den) : Option ((Sl S_impl_Held)) := match d with | .rs za0_0 .impl_Held na0_0 fa0_0 => some (⟨za0_0, na0_0, fa0_0⟩ : (Sl S_impl_Held)) | _ => none
theorem out_sl_impl_Held_enc (d : D RT den) (y : (Sl S_impl_Held)) (h : out_sl_impl_Held d = some y) : d = enc_sl_impl_Held y := by
  unfold out_sl_impl_Held at h
  split at h
  · cases h; rfl
  · cases h
def enc_impl_Mux (y : S_impl_Mux) : D RT den := (.agg [(.int .i64 y.Address), (.int .i64 y.Now), (.bool y.Watch.Ready), (.int .i64 y.Watch.Config.Version), (.rs y.Watch.Config.Backends.z .impl_Backend y.Watch.Config.Backends.n y.Watch.Config.Backends.f), (.rs y.Watch.Config.Vips.z .impl_Vip y.Watch.Config.Vips.n y.Watch.Config.Vips.f), (.rs y.Tables.z .sl_i64 y.Tables.n y.Tables.f), (.rs y.Cache.z .impl_Held y.Cache.n y.Cache.f)])
def out_impl_Mux (d : D RT den) : Option (S_impl_Mux) := match d with | .agg [.int .i64 a0_1, .int .i64 a0_2, .bool a0_4, .int .i64 a0_6, .rs za0_7 .impl_Backend na0_7 fa0_7, .rs za0_8 .impl_Vip na0_8 fa0_8, .rs za0_9 .sl_i64 na0_9 fa0_9, .rs za0_10 .impl_Held na0_10 fa0_10] => some (⟨a0_1, a0_2, (⟨a0_4, (⟨a0_6, (⟨za0_7, na0_7, fa0_7⟩ : (Sl S_impl_Backend)), (⟨za0_8, na0_8, fa0_8⟩ : (Sl S_impl_Vip))⟩ : S_impl_Config)⟩ : S_impl_Watch), (⟨za0_9, na0_9, fa0_9⟩ : (Sl (Sl Int))), (⟨za0_10, na0_10, fa0_10⟩ : (Sl S_impl_Held))⟩ : S_impl_Mux) | _ => none
theorem out_impl_Mux_enc (d : D RT den) (y : S_impl_Mux) (h : out_impl_Mux d = some y) : d = enc_impl_Mux y := by
  unfold out_impl_Mux at h
  split at h
  · cases h; rfl
  · cases h
def enc_i64 (y : Int) : D RT den := (.int .i64 y)
def out_i64 (d : D RT den) : Option (Int) := match d with | .int .i64 a0_0 => some a0_0 | _ => none
theorem out_i64_enc (d : D RT den) (y : Int) (h : out_i64 d = some y) : d = enc_i64 y := by
  unfold out_i64 at h
  split at h
  · cases h; rfl
  · cases h
def enc_sl_impl_Share (y : (Sl S_impl_Share)) : D RT den := (.rs y.z .impl_Share y.n y.f)
def out_sl_impl_Share (d : D RT den) : Option ((Sl S_impl_Share)) := match d with | .rs za0_0 .impl_Share na0_0 fa0_0 => some (⟨za0_0, na0_0, fa0_0⟩ : (Sl S_impl_Share)) | _ => none
theorem out_sl_impl_Share_enc (d : D RT den) (y : (Sl S_impl_Share)) (h : out_sl_impl_Share d = some y) : d = enc_sl_impl_Share y := by
  unfold out_sl_impl_Share at h
  split at h
  · cases h; rfl
  · cases h
def enc_bo (y : Bool) : D RT den := (.bool y)
def out_bo (d : D RT den) : Option (Bool) := match d with | .bool a0_0 => some a0_0 | _ => none
theorem out_bo_enc (d : D RT den) (y : Bool) (h : out_bo d = some y) : d = enc_bo y := by
  unfold out_bo at h
  split at h
  · cases h; rfl
  · cases h
def enc_sl_u8 (y : (Sl Int)) : D RT den := (.rs y.z .u8 y.n y.f)
def out_sl_u8 (d : D RT den) : Option ((Sl Int)) := match d with | .rs za0_0 .u8 na0_0 fa0_0 => some (⟨za0_0, na0_0, fa0_0⟩ : (Sl Int)) | _ => none
theorem out_sl_u8_enc (d : D RT den) (y : (Sl Int)) (h : out_sl_u8 d = some y) : d = enc_sl_u8 y := by
  unfold out_sl_u8 at h
  split at h
  · cases h; rfl
  · cases h
def enc_str (y : ByteArray) : D RT den := (.str y)
def out_str (d : D RT den) : Option (ByteArray) := match d with | .str a0_0 => some a0_0 | _ => none
theorem out_str_enc (d : D RT den) (y : ByteArray) (h : out_str d = some y) : d = enc_str y := by
  unfold out_str at h
  split at h
  · cases h; rfl
  · cases h
def enc_impl_TextResult (y : S_impl_TextResult) : D RT den := (.agg [(.int .i64 y.Code), (.str y.Text)])
def out_impl_TextResult (d : D RT den) : Option (S_impl_TextResult) := match d with | .agg [.int .i64 a0_1, .str a0_2] => some (⟨a0_1, a0_2⟩ : S_impl_TextResult) | _ => none
theorem out_impl_TextResult_enc (d : D RT den) (y : S_impl_TextResult) (h : out_impl_TextResult d = some y) : d = enc_impl_TextResult y := by
  unfold out_impl_TextResult at h
  split at h
  · cases h; rfl
  · cases h
end Go.Proofs.YtcmfekgdlaffkaaGreatDoor.Px
