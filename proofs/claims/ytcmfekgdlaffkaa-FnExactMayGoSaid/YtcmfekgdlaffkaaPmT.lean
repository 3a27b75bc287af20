/- The tables of the program's types for the value machine. Conditions: none. -/
import Derived.Test.YtcmfekgdlaffkaaVmU
import Derived.Test.YtcmfekgdlaffkaaVmO
import Derived.Test.YtcmfekgdlaffkaaProg
import Derived.KernelRfl
namespace Go.Proofs.Ytcmfekgdlaffkaa.Pm
open Go Go.RowKit Go.Proofs Vm
set_option linter.unusedVariables false
set_option linter.unusedSimpArgs false
set_option maxRecDepth 100000
structure S_impl_Backend where
  Name : Int
  Address : Int
  Weight : Int
  Stage : Int
  Up : Bool
structure S_impl_Vip where
  Address : Int
  Port : Int
  Proto : Int
  Names : (Sl Int)
structure S_laws_Config where
  Version : Int
  Backends : (Sl S_impl_Backend)
  Vips : (Sl S_impl_Vip)
structure S_impl_Config where
  Version : Int
  Backends : (Sl S_impl_Backend)
  Vips : (Sl S_impl_Vip)
structure S_impl_Packet where
  From : Int
  To : Int
  Proto : Int
  FromP : Int
  ToP : Int
  Load : (Sl Int)
structure S_impl_PacketResult where
  Code : Int
  Packet : S_impl_Packet
structure S_impl_Flow where
  From : Int
  To : Int
  Proto : Int
  FromP : Int
  ToP : Int
structure S_impl_BytesResult where
  Code : Int
  Bytes : (Sl Int)
inductive RT where
  | i64
  | impl_Backend
  | impl_Vip
  | u8

def RT.no : RT → Nat
  | .i64 => 0
  | .impl_Backend => 1
  | .impl_Vip => 2
  | .u8 => 3

instance : DecidableEq RT := fun a b => if h : a.no = b.no then isTrue (by cases a <;> cases b <;> first | rfl | (cases h)) else isFalse (fun e => h (by rw [e]))
def den : RT → Type
  | .i64 => Int
  | .impl_Backend => S_impl_Backend
  | .impl_Vip => S_impl_Vip
  | .u8 => Int

def W_i64 (n : Int) : Prop := (Lit.int .i64 n).wf = true
def W_bo (b : Bool) : Prop := True
def W_impl_Backend (x : S_impl_Backend) : Prop := W_i64 x.Name ∧ W_i64 x.Address ∧ W_i64 x.Weight ∧ W_i64 x.Stage ∧ W_bo x.Up
def W_sl_impl_Backend (x : (Sl S_impl_Backend)) : Prop := x.n ≤ maxLen ∧ ∀ i, i < x.n → W_impl_Backend (x.f i)
def W_sl_i64 (x : (Sl Int)) : Prop := x.n ≤ maxLen ∧ ∀ i, i < x.n → W_i64 (x.f i)
def W_impl_Vip (x : S_impl_Vip) : Prop := W_i64 x.Address ∧ W_i64 x.Port ∧ W_i64 x.Proto ∧ W_sl_i64 x.Names
def W_sl_impl_Vip (x : (Sl S_impl_Vip)) : Prop := x.n ≤ maxLen ∧ ∀ i, i < x.n → W_impl_Vip (x.f i)
def W_laws_Config (x : S_laws_Config) : Prop := W_i64 x.Version ∧ W_sl_impl_Backend x.Backends ∧ W_sl_impl_Vip x.Vips
def W_u8 (n : Int) : Prop := (Lit.int .u8 n).wf = true
def W_sl_u8 (x : (Sl Int)) : Prop := x.n ≤ maxLen ∧ ∀ i, i < x.n → W_u8 (x.f i)
def dflt : (τ : RT) → den τ
  | .i64 => (0 : Int)
  | .impl_Backend => (⟨0, 0, 0, 0, false⟩ : S_impl_Backend)
  | .impl_Vip => (⟨0, 0, 0, ⟨some true, 0, fun _ => 0⟩⟩ : S_impl_Vip)
  | .u8 => (0 : Int)

def cellsR : (τ : RT) → den τ → List (D RT den)
  | .i64, (x : Int) => [(.int .i64 x)]
  | .impl_Backend, (x : S_impl_Backend) => [(.int .i64 x.Name), (.int .i64 x.Address), (.int .i64 x.Weight), (.int .i64 x.Stage), (.bool x.Up)]
  | .impl_Vip, (x : S_impl_Vip) => [(.int .i64 x.Address), (.int .i64 x.Port), (.int .i64 x.Proto), (.rs x.Names.z .i64 x.Names.n x.Names.f)]
  | .u8, (x : Int) => [(.int .u8 x)]

def dec_i64 (cs : List (D RT den)) : Option Int := match cs with | [.int .i64 a0_0] => some a0_0 | _ => none
theorem dec_i64_cells (cs : List (D RT den)) (x : Int) (h : dec_i64 cs = some x) : cellsR .i64 x = cs := by
  unfold dec_i64 at h
  split at h
  · cases h; rfl
  · cases h
def dec_impl_Backend (cs : List (D RT den)) : Option S_impl_Backend := match cs with | [.int .i64 a0_1, .int .i64 a0_2, .int .i64 a0_3, .int .i64 a0_4, .bool a0_5] => some (⟨a0_1, a0_2, a0_3, a0_4, a0_5⟩ : S_impl_Backend) | _ => none
theorem dec_impl_Backend_cells (cs : List (D RT den)) (x : S_impl_Backend) (h : dec_impl_Backend cs = some x) : cellsR .impl_Backend x = cs := by
  unfold dec_impl_Backend at h
  split at h
  · cases h; rfl
  · cases h
def dec_impl_Vip (cs : List (D RT den)) : Option S_impl_Vip := match cs with | [.int .i64 a0_1, .int .i64 a0_2, .int .i64 a0_3, .rs za0_4 .i64 na0_4 fa0_4] => some (⟨a0_1, a0_2, a0_3, (⟨za0_4, na0_4, fa0_4⟩ : (Sl Int))⟩ : S_impl_Vip) | _ => none
theorem dec_impl_Vip_cells (cs : List (D RT den)) (x : S_impl_Vip) (h : dec_impl_Vip cs = some x) : cellsR .impl_Vip x = cs := by
  unfold dec_impl_Vip at h
  split at h
  · cases h; rfl
  · cases h
def dec_u8 (cs : List (D RT den)) : Option Int := match cs with | [.int .u8 a0_0] => some a0_0 | _ => none
theorem dec_u8_cells (cs : List (D RT den)) (x : Int) (h : dec_u8 cs = some x) : cellsR .u8 x = cs := by
  unfold dec_u8 at h
  split at h
  · cases h; rfl
  · cases h
def decR : (τ : RT) → List (D RT den) → Option (den τ)
  | .i64, cs => dec_i64 cs
  | .impl_Backend, cs => dec_impl_Backend cs
  | .impl_Vip, cs => dec_impl_Vip cs
  | .u8, cs => dec_u8 cs

def sizeR : RT → Nat
  | .i64 => 1
  | .impl_Backend => 5
  | .impl_Vip => 4
  | .u8 => 1

def sclR : RT → Bool
  | .i64 => true
  | .impl_Backend => true
  | .impl_Vip => false
  | .u8 => true

def nilR : RT → Bool
  | .i64 => false
  | .impl_Backend => false
  | .impl_Vip => false
  | .u8 => false

def bytR : RT → Bool
  | .i64 => false
  | .impl_Backend => false
  | .impl_Vip => false
  | .u8 => true

def litR : RT → Bool
  | .i64 => false
  | .impl_Backend => false
  | .impl_Vip => false
  | .u8 => false

def rtl : List (Nat × RT) := [(2, .i64), (3, .i64), (5, .u8), (61, .impl_Backend), (64, .impl_Vip), (128, .impl_Vip), (130, .impl_Backend)]
def zs : List (Nat × List (D RT den)) := [(2, [(.int .i64 0)]), (3, [(.int .i64 0)]), (5, [(.int .u8 0)]), (26, [(.int .i64 0), (.emp true .impl_Backend), (.emp true .impl_Vip)]), (42, [(.int .i64 0), (.emp true .u8)]), (61, [(.int .i64 0), (.int .i64 0), (.int .i64 0), (.int .i64 0), (.bool false)]), (64, [(.int .i64 0), (.int .i64 0), (.int .i64 0), (.emp true .i64)]), (87, [(.int .i64 0), (.int .i64 0), (.int .i64 0), (.int .i64 0), (.int .i64 0), (.emp true .u8)]), (89, [(.int .i64 0), (.int .i64 0), (.int .i64 0), (.int .i64 0), (.int .i64 0), (.int .i64 0), (.emp true .u8)]), (93, [(.int .i64 0), (.int .i64 0), (.int .i64 0), (.int .i64 0), (.int .i64 0)])]
def tbl : List (Nat × TI) := [(2, ⟨1, 8, false, none, [], false, none, false, (some .i64), false⟩),
  (3, ⟨1, 8, false, none, [], false, none, false, none, false⟩),
  (4, ⟨1, 1, false, none, [], false, none, true, none, false⟩),
  (5, ⟨1, 1, false, none, [], false, none, false, (some .u8), false⟩),
  (9, ⟨1, 16, false, none, [], false, none, false, none, true⟩),
  (22, ⟨1, 24, false, some 5, [], false, none, false, none, false⟩),
  (23, ⟨1, 24, false, some 61, [], false, none, false, none, false⟩),
  (24, ⟨1, 24, false, some 64, [], false, none, false, none, false⟩),
  (26, ⟨3, 56, true, none, [(0, 2), (1, 23), (2, 24)], false, none, false, none, false⟩),
  (42, ⟨2, 32, true, none, [(0, 2), (1, 22)], true, none, false, none, false⟩),
  (48, ⟨1, 24, false, some 130, [], false, none, false, none, false⟩),
  (49, ⟨1, 24, false, some 128, [], false, none, false, none, false⟩),
  (51, ⟨3, 56, true, none, [(0, 2), (1, 48), (2, 49)], false, none, false, none, false⟩),
  (61, ⟨5, 40, true, none, [(0, 2), (1, 2), (2, 2), (3, 2), (4, 4)], false, none, false, none, false⟩),
  (62, ⟨1, 24, false, some 2, [], false, none, false, none, false⟩),
  (64, ⟨4, 48, true, none, [(0, 2), (1, 2), (2, 2), (3, 62)], false, none, false, none, false⟩),
  (87, ⟨6, 64, true, none, [(0, 2), (1, 2), (2, 2), (3, 2), (4, 2), (5, 22)], true, none, false, none, false⟩),
  (89, ⟨7, 72, true, none, [(0, 2), (1, 87)], true, none, false, none, false⟩),
  (93, ⟨5, 40, true, none, [(0, 2), (1, 2), (2, 2), (3, 2), (4, 2)], true, none, false, none, false⟩),
  (122, ⟨1, 8, false, none, [], false, none, false, (some .u64), false⟩),
  (128, ⟨4, 48, true, none, [(0, 2), (1, 2), (2, 2), (3, 62)], false, none, false, none, false⟩),
  (130, ⟨5, 40, true, none, [(0, 2), (1, 2), (2, 2), (3, 2), (4, 4)], false, none, false, none, false⟩),
  (148, ⟨1, 24, false, some 3, [], false, none, false, none, false⟩)]
noncomputable def fnT (f : Nat) : Option Func := match f with
  | 5 => some Try.f5
  | 7 => some Try.f7
  | 10 => some Try.f10
  | 26 => some Try.f26
  | 27 => some Try.f27
  | 28 => some Try.f28
  | 29 => some Try.f29
  | 30 => some Try.f30
  | 32 => some Try.f32
  | 35 => some Try.f35
  | 36 => some Try.f36
  | 44 => some Try.f44
  | 48 => some Try.f48
  | 53 => some Try.f53
  | 54 => some Try.f54
  | 55 => some Try.f55
  | 56 => some Try.f56
  | 57 => some Try.f57
  | 58 => some Try.f58
  | 59 => some Try.f59
  | 60 => some Try.f60
  | 61 => some Try.f61
  | 62 => some Try.f62
  | 63 => some Try.f63
  | 64 => some Try.f64
  | 65 => some Try.f65
  | 66 => some Try.f66
  | 67 => some Try.f67
  | 68 => some Try.f68
  | 69 => some Try.f69
  | 70 => some Try.f70
  | 71 => some Try.f71
  | 72 => some Try.f72
  | 73 => some Try.f73
  | 74 => some Try.f74
  | 75 => some Try.f75
  | 76 => some Try.f76
  | 77 => some Try.f77
  | 78 => some Try.f78
  | 79 => some Try.f79
  | 80 => some Try.f80
  | 81 => some Try.f81
  | 82 => some Try.f82
  | 83 => some Try.f83
  | 93 => some Try.f93
  | 96 => some Try.f96
  | 97 => some Try.f97
  | 98 => some Try.f98
  | 100 => some Try.f100
  | 104 => some Try.f104
  | 105 => some Try.f105
  | 106 => some Try.f106
  | 107 => some Try.f107
  | 108 => some Try.f108
  | 109 => some Try.f109
  | 110 => some Try.f110
  | 111 => some Try.f111
  | 112 => some Try.f112
  | 113 => some Try.f113
  | 114 => some Try.f114
  | 115 => some Try.f115
  | 116 => some Try.f116
  | 117 => some Try.f117
  | 118 => some Try.f118
  | 119 => some Try.f119
  | 120 => some Try.f120
  | 121 => some Try.f121
  | 122 => some Try.f122
  | 123 => some Try.f123
  | 130 => some Try.f130
  | 131 => some Try.f131
  | 132 => some Try.f132
  | 133 => some Try.f133
  | 134 => some Try.f134
  | 135 => some Try.f135
  | 136 => some Try.f136
  | 137 => some Try.f137
  | 138 => some Try.f138
  | 139 => some Try.f139
  | _ => none
def parT (f : Nat) : List Nat := match f with | 83 => [22, 2, 2] | _ => []
def R : Vm.Rows RT den := ⟨fun t => rtl.lookup t, sizeR, cellsR, decR, (fun a b => decEq a b), dflt, fun t => zs.lookup t, sclR, nilR, bytR, litR⟩
noncomputable def E : Env RT den := envOf Try.prog tbl R zs fnT parT
theorem rows_ok : RowsOk R tbl where
  size := by intro τ x; cases τ <;> rfl
  dec := by
    intro τ cs x h
    cases τ
    · exact dec_i64_cells cs x h
    · exact dec_impl_Backend_cells cs x h
    · exact dec_impl_Vip_cells cs x h
    · exact dec_u8_cells cs x h
  pure := by intro τ x; cases τ <;> rfl
  scl := by intro τ h x; cases τ <;> first | rfl | cases h
  byt := by intro τ h x; cases τ <;> first | exact ⟨_, rfl⟩ | cases h
  rt := rt_of (by kernel_rfl)
theorem fn_ok : ∀ f g, fnT f = some g → Try.prog.funcs[f]? = some g := by
  intro f g h
  unfold fnT at h
  split at h <;> first | (cases h; kernel_rfl) | cases h
theorem E_ok : Ok E Try.prog := envOf_ok (by kernel_rfl) (by kernel_rfl) (by kernel_rfl) fn_ok rows_ok (by kernel_rfl)
def pcf0 : Nat → List (D RT den) → Option (Out RT den) := fun _ _ => none
def pcd0 : Nat → Bool := fun _ => false
def pcx0 : Nat → List (D RT den) → List (Ob RT den) → Option (OutX RT den) := fun _ _ _ => none
theorem hpc0 : ∀ f xs o, pcf0 f xs = some o → ∀ y, o.x = some y → Good E Try.prog f xs (o.g y) := by
  intro f xs o h
  cases h
theorem hpx0 : ∀ f xs ins o, pcx0 f xs ins = some o → ∀ y, o.x = some y → GoodXD E Try.prog (pcd0 f) (pcd0 f) f xs ins (o.g y).1 (o.g y).2 := by
  intro f xs ins o h
  cases h
def enc_impl_Backend (y : S_impl_Backend) : D RT den := (.agg [(.int .i64 y.Name), (.int .i64 y.Address), (.int .i64 y.Weight), (.int .i64 y.Stage), (.bool y.Up)])
def out_impl_Backend (d : D RT den) : Option (S_impl_Backend) := match d with | .agg [.int .i64 a0_1, .int .i64 a0_2, .int .i64 a0_3, .int .i64 a0_4, .bool a0_5] => some (⟨a0_1, a0_2, a0_3, a0_4, a0_5⟩ : S_impl_Backend) | _ => none
theorem out_impl_Backend_enc (d : D RT den) (y : S_impl_Backend) (h : out_impl_Backend d = some y) : d = enc_impl_Backend y := by
  unfold out_impl_Backend at h
  split at h
  · cases h; rfl
  · cases h
def enc_sl_impl_Backend_H (y : (Sl S_impl_Backend)) : D RT den × List (Ob RT den) := ((.os 0 y.n), [(.row false .impl_Backend y.n y.f)])
def out_sl_impl_Backend_H (d : D RT den) (os : List (Ob RT den)) : Option ((Sl S_impl_Backend)) := match d, os with | .rs za0_0 .impl_Backend na0_0 fa0_0, [] => some (⟨za0_0, na0_0, fa0_0⟩ : (Sl S_impl_Backend)) | _, _ => none
theorem out_sl_impl_Backend_H_enc (d : D RT den) (os : List (Ob RT den)) (y : (Sl S_impl_Backend)) (h : out_sl_impl_Backend_H d os = some y) : (unh 0 d).1 = (enc_sl_impl_Backend_H y).1 ∧ os ++ (unh 0 d).2 = (enc_sl_impl_Backend_H y).2 := by
  unfold out_sl_impl_Backend_H at h
  split at h
  · cases h; exact ⟨rfl, rfl⟩
  · cases h
def enc_sl_i64_H (y : (Sl Int)) : D RT den × List (Ob RT den) := ((.os 0 y.n), [(.row false .i64 y.n y.f)])
def out_sl_i64_H (d : D RT den) (os : List (Ob RT den)) : Option ((Sl Int)) := match d, os with | .rs za0_0 .i64 na0_0 fa0_0, [] => some (⟨za0_0, na0_0, fa0_0⟩ : (Sl Int)) | _, _ => none
theorem out_sl_i64_H_enc (d : D RT den) (os : List (Ob RT den)) (y : (Sl Int)) (h : out_sl_i64_H d os = some y) : (unh 0 d).1 = (enc_sl_i64_H y).1 ∧ os ++ (unh 0 d).2 = (enc_sl_i64_H y).2 := by
  unfold out_sl_i64_H at h
  split at h
  · cases h; exact ⟨rfl, rfl⟩
  · cases h
def enc_impl_Vip_H (y : S_impl_Vip) : D RT den × List (Ob RT den) := ((.agg [(.int .i64 y.Address), (.int .i64 y.Port), (.int .i64 y.Proto), (.os 0 y.Names.n)]), [(.row false .i64 y.Names.n y.Names.f)])
def out_impl_Vip_H (d : D RT den) (os : List (Ob RT den)) : Option (S_impl_Vip) := match d, os with | .agg [.int .i64 a0_1, .int .i64 a0_2, .int .i64 a0_3, .rs za0_4 .i64 na0_4 fa0_4], [] => some (⟨a0_1, a0_2, a0_3, (⟨za0_4, na0_4, fa0_4⟩ : (Sl Int))⟩ : S_impl_Vip) | _, _ => none
theorem out_impl_Vip_H_enc (d : D RT den) (os : List (Ob RT den)) (y : S_impl_Vip) (h : out_impl_Vip_H d os = some y) : (unh 0 d).1 = (enc_impl_Vip_H y).1 ∧ os ++ (unh 0 d).2 = (enc_impl_Vip_H y).2 := by
  unfold out_impl_Vip_H at h
  split at h
  · cases h; exact ⟨rfl, rfl⟩
  · cases h
def enc_sl_u8_H (y : (Sl Int)) : D RT den × List (Ob RT den) := ((.os 0 y.n), [(.row false .u8 y.n y.f)])
def out_sl_u8_H (d : D RT den) (os : List (Ob RT den)) : Option ((Sl Int)) := match d, os with | .rs za0_0 .u8 na0_0 fa0_0, [] => some (⟨za0_0, na0_0, fa0_0⟩ : (Sl Int)) | _, _ => none
theorem out_sl_u8_H_enc (d : D RT den) (os : List (Ob RT den)) (y : (Sl Int)) (h : out_sl_u8_H d os = some y) : (unh 0 d).1 = (enc_sl_u8_H y).1 ∧ os ++ (unh 0 d).2 = (enc_sl_u8_H y).2 := by
  unfold out_sl_u8_H at h
  split at h
  · cases h; exact ⟨rfl, rfl⟩
  · cases h
def enc_i64 (y : Int) : D RT den := (.int .i64 y)
def out_i64 (d : D RT den) : Option (Int) := match d with | .int .i64 a0_0 => some a0_0 | _ => none
theorem out_i64_enc (d : D RT den) (y : Int) (h : out_i64 d = some y) : d = enc_i64 y := by
  unfold out_i64 at h
  split at h
  · cases h; rfl
  · cases h
def enc_bo (y : Bool) : D RT den := (.bool y)
def out_bo (d : D RT den) : Option (Bool) := match d with | .bool a0_0 => some a0_0 | _ => none
theorem out_bo_enc (d : D RT den) (y : Bool) (h : out_bo d = some y) : d = enc_bo y := by
  unfold out_bo at h
  split at h
  · cases h; rfl
  · cases h
def enc_impl_PacketResult (y : S_impl_PacketResult) : D RT den := (.agg [(.int .i64 y.Code), (.int .i64 y.Packet.From), (.int .i64 y.Packet.To), (.int .i64 y.Packet.Proto), (.int .i64 y.Packet.FromP), (.int .i64 y.Packet.ToP), (.rs y.Packet.Load.z .u8 y.Packet.Load.n y.Packet.Load.f)])
def out_impl_PacketResult (d : D RT den) : Option (S_impl_PacketResult) := match d with | .agg [.int .i64 a0_1, .int .i64 a0_3, .int .i64 a0_4, .int .i64 a0_5, .int .i64 a0_6, .int .i64 a0_7, .rs za0_8 .u8 na0_8 fa0_8] => some (⟨a0_1, (⟨a0_3, a0_4, a0_5, a0_6, a0_7, (⟨za0_8, na0_8, fa0_8⟩ : (Sl Int))⟩ : S_impl_Packet)⟩ : S_impl_PacketResult) | _ => none
theorem out_impl_PacketResult_enc (d : D RT den) (y : S_impl_PacketResult) (h : out_impl_PacketResult d = some y) : d = enc_impl_PacketResult y := by
  unfold out_impl_PacketResult at h
  split at h
  · cases h; rfl
  · cases h
def enc_impl_BytesResult (y : S_impl_BytesResult) : D RT den := (.agg [(.int .i64 y.Code), (.rs y.Bytes.z .u8 y.Bytes.n y.Bytes.f)])
def out_impl_BytesResult (d : D RT den) : Option (S_impl_BytesResult) := match d with | .agg [.int .i64 a0_1, .rs za0_2 .u8 na0_2 fa0_2] => some (⟨a0_1, (⟨za0_2, na0_2, fa0_2⟩ : (Sl Int))⟩ : S_impl_BytesResult) | _ => none
theorem out_impl_BytesResult_enc (d : D RT den) (y : S_impl_BytesResult) (h : out_impl_BytesResult d = some y) : d = enc_impl_BytesResult y := by
  unfold out_impl_BytesResult at h
  split at h
  · cases h; rfl
  · cases h
def enc_impl_Flow (y : S_impl_Flow) : D RT den := (.agg [(.int .i64 y.From), (.int .i64 y.To), (.int .i64 y.Proto), (.int .i64 y.FromP), (.int .i64 y.ToP)])
def out_impl_Flow (d : D RT den) : Option (S_impl_Flow) := match d with | .agg [.int .i64 a0_1, .int .i64 a0_2, .int .i64 a0_3, .int .i64 a0_4, .int .i64 a0_5] => some (⟨a0_1, a0_2, a0_3, a0_4, a0_5⟩ : S_impl_Flow) | _ => none
theorem out_impl_Flow_enc (d : D RT den) (y : S_impl_Flow) (h : out_impl_Flow d = some y) : d = enc_impl_Flow y := by
  unfold out_impl_Flow at h
  split at h
  · cases h; rfl
  · cases h
def enc_impl_PacketResult_H (y : S_impl_PacketResult) : D RT den × List (Ob RT den) := ((.agg [(.int .i64 y.Code), (.int .i64 y.Packet.From), (.int .i64 y.Packet.To), (.int .i64 y.Packet.Proto), (.int .i64 y.Packet.FromP), (.int .i64 y.Packet.ToP), (.os 0 y.Packet.Load.n)]), [(.row false .u8 y.Packet.Load.n y.Packet.Load.f)])
def out_impl_PacketResult_H (d : D RT den) (os : List (Ob RT den)) : Option (S_impl_PacketResult) := match d, os with | .agg [.int .i64 a0_1, .int .i64 a0_3, .int .i64 a0_4, .int .i64 a0_5, .int .i64 a0_6, .int .i64 a0_7, .rs za0_8 .u8 na0_8 fa0_8], [] => some (⟨a0_1, (⟨a0_3, a0_4, a0_5, a0_6, a0_7, (⟨za0_8, na0_8, fa0_8⟩ : (Sl Int))⟩ : S_impl_Packet)⟩ : S_impl_PacketResult) | _, _ => none
theorem out_impl_PacketResult_H_enc (d : D RT den) (os : List (Ob RT den)) (y : S_impl_PacketResult) (h : out_impl_PacketResult_H d os = some y) : (unh 0 d).1 = (enc_impl_PacketResult_H y).1 ∧ os ++ (unh 0 d).2 = (enc_impl_PacketResult_H y).2 := by
  unfold out_impl_PacketResult_H at h
  split at h
  · cases h; exact ⟨rfl, rfl⟩
  · cases h
end Go.Proofs.Ytcmfekgdlaffkaa.Pm
