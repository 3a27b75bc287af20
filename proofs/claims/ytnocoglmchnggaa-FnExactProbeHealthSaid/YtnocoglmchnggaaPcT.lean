/- The tables of the program's types for the value machine. Conditions: none. -/
import Derived.Test.YtnocoglmchnggaaVmO
import Derived.Test.YtnocoglmchnggaaProg
import Derived.KernelRfl
namespace Go.Proofs.Ytnocoglmchnggaa.Pc
open Go Go.RowKit Go.Proofs Vm
set_option linter.unusedVariables false
set_option linter.unusedSimpArgs false
set_option maxRecDepth 100000
structure S_impl_Health where
  Name : Int
  Up : Bool
  Run : Int
structure S_impl_Verdict where
  Prober : Int
  Name : Int
  Up : Bool
  Epoch : Int
structure S_impl_Backend where
  Name : Int
  Address : Int
  Weight : Int
  Stage : Int
  Up : Bool
structure S_impl_Vip where
  Address : Int
  Port : Int
  Proto : Int
  Names : (Sl Int)
structure S_laws_Config where
  Version : Int
  Backends : (Sl S_impl_Backend)
  Vips : (Sl S_impl_Vip)
structure S_impl_Session where
  Client : Int
  Seq : Int
  Code : Int
structure S_laws_Machine where
  Config : S_laws_Config
  Sessions : (Sl S_impl_Session)
structure S_laws_Watch where
  Ready : Bool
  Config : S_laws_Config
structure S_impl_HealthResult where
  Code : Int
  Turned : Bool
  Health : S_impl_Health
structure S_impl_IntResult where
  Code : Int
  Value : Int
structure S_impl_Config where
  Version : Int
  Backends : (Sl S_impl_Backend)
  Vips : (Sl S_impl_Vip)
structure S_impl_Machine where
  Config : S_impl_Config
  Sessions : (Sl S_impl_Session)
structure S_impl_Watch where
  Ready : Bool
  Config : S_impl_Config
inductive RT where
  | i64
  | bo
  | impl_Verdict
  | impl_Backend
  | impl_Vip
  | impl_Session

def RT.no : RT → Nat
  | .i64 => 0
  | .bo => 1
  | .impl_Verdict => 2
  | .impl_Backend => 3
  | .impl_Vip => 4
  | .impl_Session => 5

instance : DecidableEq RT := fun a b => if h : a.no = b.no then isTrue (by cases a <;> cases b <;> first | rfl | (cases h)) else isFalse (fun e => h (by rw [e]))
def den : RT → Type
  | .i64 => Int
  | .bo => Bool
  | .impl_Verdict => S_impl_Verdict
  | .impl_Backend => S_impl_Backend
  | .impl_Vip => S_impl_Vip
  | .impl_Session => S_impl_Session

def W_i64 (n : Int) : Prop := (Lit.int .i64 n).wf = true
def W_bo (b : Bool) : Prop := True
def W_impl_Health (x : S_impl_Health) : Prop := W_i64 x.Name ∧ W_bo x.Up ∧ W_i64 x.Run
def W_sl_bo (x : (Sl Bool)) : Prop := x.n ≤ maxLen ∧ ∀ i, i < x.n → W_bo (x.f i)
def W_impl_Verdict (x : S_impl_Verdict) : Prop := W_i64 x.Prober ∧ W_i64 x.Name ∧ W_bo x.Up ∧ W_i64 x.Epoch
def W_sl_impl_Verdict (x : (Sl S_impl_Verdict)) : Prop := x.n ≤ maxLen ∧ ∀ i, i < x.n → W_impl_Verdict (x.f i)
def W_impl_Backend (x : S_impl_Backend) : Prop := W_i64 x.Name ∧ W_i64 x.Address ∧ W_i64 x.Weight ∧ W_i64 x.Stage ∧ W_bo x.Up
def W_sl_impl_Backend (x : (Sl S_impl_Backend)) : Prop := x.n ≤ maxLen ∧ ∀ i, i < x.n → W_impl_Backend (x.f i)
def W_sl_i64 (x : (Sl Int)) : Prop := x.n ≤ maxLen ∧ ∀ i, i < x.n → W_i64 (x.f i)
def W_impl_Vip (x : S_impl_Vip) : Prop := W_i64 x.Address ∧ W_i64 x.Port ∧ W_i64 x.Proto ∧ W_sl_i64 x.Names
def W_sl_impl_Vip (x : (Sl S_impl_Vip)) : Prop := x.n ≤ maxLen ∧ ∀ i, i < x.n → W_impl_Vip (x.f i)
def W_laws_Config (x : S_laws_Config) : Prop := W_i64 x.Version ∧ W_sl_impl_Backend x.Backends ∧ W_sl_impl_Vip x.Vips
def W_impl_Session (x : S_impl_Session) : Prop := W_i64 x.Client ∧ W_i64 x.Seq ∧ W_i64 x.Code
def W_sl_impl_Session (x : (Sl S_impl_Session)) : Prop := x.n ≤ maxLen ∧ ∀ i, i < x.n → W_impl_Session (x.f i)
def W_laws_Machine (x : S_laws_Machine) : Prop := W_laws_Config x.Config ∧ W_sl_impl_Session x.Sessions
def W_laws_Watch (x : S_laws_Watch) : Prop := W_bo x.Ready ∧ W_laws_Config x.Config
def dflt : (τ : RT) → den τ
  | .i64 => (0 : Int)
  | .bo => (false : Bool)
  | .impl_Verdict => (⟨0, 0, false, 0⟩ : S_impl_Verdict)
  | .impl_Backend => (⟨0, 0, 0, 0, false⟩ : S_impl_Backend)
  | .impl_Vip => (⟨0, 0, 0, ⟨some true, 0, fun _ => 0⟩⟩ : S_impl_Vip)
  | .impl_Session => (⟨0, 0, 0⟩ : S_impl_Session)

def cellsR : (τ : RT) → den τ → List (D RT den)
  | .i64, (x : Int) => [(.int .i64 x)]
  | .bo, (x : Bool) => [(.bool x)]
  | .impl_Verdict, (x : S_impl_Verdict) => [(.int .i64 x.Prober), (.int .i64 x.Name), (.bool x.Up), (.int .i64 x.Epoch)]
  | .impl_Backend, (x : S_impl_Backend) => [(.int .i64 x.Name), (.int .i64 x.Address), (.int .i64 x.Weight), (.int .i64 x.Stage), (.bool x.Up)]
  | .impl_Vip, (x : S_impl_Vip) => [(.int .i64 x.Address), (.int .i64 x.Port), (.int .i64 x.Proto), (.rs x.Names.z .i64 x.Names.n x.Names.f)]
  | .impl_Session, (x : S_impl_Session) => [(.int .i64 x.Client), (.int .i64 x.Seq), (.int .i64 x.Code)]

def dec_i64 (cs : List (D RT den)) : Option Int := match cs with | [.int .i64 a0_0] => some a0_0 | _ => none
theorem dec_i64_cells (cs : List (D RT den)) (x : Int) (h : dec_i64 cs = some x) : cellsR .i64 x = cs := by
  unfold dec_i64 at h
  split at h
  · cases h; rfl
  · cases h
def dec_bo (cs : List (D RT den)) : Option Bool := match cs with | [.bool a0_0] => some a0_0 | _ => none
theorem dec_bo_cells (cs : List (D RT den)) (x : Bool) (h : dec_bo cs = some x) : cellsR .bo x = cs := by
  unfold dec_bo at h
  split at h
  · cases h; rfl
  · cases h
def dec_impl_Verdict (cs : List (D RT den)) : Option S_impl_Verdict := match cs with | [.int .i64 a0_1, .int .i64 a0_2, .bool a0_3, .int .i64 a0_4] => some (⟨a0_1, a0_2, a0_3, a0_4⟩ : S_impl_Verdict) | _ => none
theorem dec_impl_Verdict_cells (cs : List (D RT den)) (x : S_impl_Verdict) (h : dec_impl_Verdict cs = some x) : cellsR .impl_Verdict x = cs := by
  unfold dec_impl_Verdict at h
  split at h
  · cases h; rfl
  · cases h
def dec_impl_Backend (cs : List (D RT den)) : Option S_impl_Backend := match cs with | [.int .i64 a0_1, .int .i64 a0_2, .int .i64 a0_3, .int .i64 a0_4, .bool a0_5] => some (⟨a0_1, a0_2, a0_3, a0_4, a0_5⟩ : S_impl_Backend) | _ => none
theorem dec_impl_Backend_cells (cs : List (D RT den)) (x : S_impl_Backend) (h : dec_impl_Backend cs = some x) : cellsR .impl_Backend x = cs := by
  unfold dec_impl_Backend at h
  split at h
  · cases h; rfl
  · cases h
def dec_impl_Vip (cs : List (D RT den)) : Option S_impl_Vip := match cs with | [.int .i64 a0_1, .int .i64 a0_2, .int .i64 a0_3, .rs za0_4 .i64 na0_4 fa0_4] => some (⟨a0_1, a0_2, a0_3, (⟨za0_4, na0_4, fa0_4⟩ : (Sl Int))⟩ : S_impl_Vip) | _ => none
theorem dec_impl_Vip_cells (cs : List (D RT den)) (x : S_impl_Vip) (h : dec_impl_Vip cs = some x) : cellsR .impl_Vip x = cs := by
  unfold dec_impl_Vip at h
  split at h
  · cases h; rfl
  · cases h
def dec_impl_Session (cs : List (D RT den)) : Option S_impl_Session := match cs with | [.int .i64 a0_1, .int .i64 a0_2, .int .i64 a0_3] => some (⟨a0_1, a0_2, a0_3⟩ : S_impl_Session) | _ => none
theorem dec_impl_Session_cells (cs : List (D RT den)) (x : S_impl_Session) (h : dec_impl_Session cs = some x) : cellsR .impl_Session x = cs := by
  unfold dec_impl_Session at h
  split at h
  · cases h; rfl
  · cases h
def decR : (τ : RT) → List (D RT den) → Option (den τ)
  | .i64, cs => dec_i64 cs
  | .bo, cs => dec_bo cs
  | .impl_Verdict, cs => dec_impl_Verdict cs
  | .impl_Backend, cs => dec_impl_Backend cs
  | .impl_Vip, cs => dec_impl_Vip cs
  | .impl_Session, cs => dec_impl_Session cs

def sizeR : RT → Nat
  | .i64 => 1
  | .bo => 1
  | .impl_Verdict => 4
  | .impl_Backend => 5
  | .impl_Vip => 4
  | .impl_Session => 3

def rtl : List (Nat × RT) := [(2, .i64), (3, .i64), (4, .bo), (90, .impl_Verdict), (92, .impl_Verdict), (98, .impl_Session), (114, .impl_Backend), (117, .impl_Vip), (122, .impl_Session), (134, .impl_Vip), (136, .impl_Backend)]
def zs : List (Nat × List (D RT den)) := [(2, [(.int .i64 0)]), (3, [(.int .i64 0)]), (4, [(.bool false)]), (24, [(.int .i64 0), (.bool false), (.int .i64 0)]), (26, [(.int .i64 0), (.bool false), (.int .i64 0), (.bool false), (.int .i64 0)]), (44, [(.int .i64 0), (.int .i64 0)]), (63, [(.int .i64 0), (.emp true .impl_Backend), (.emp true .impl_Vip)]), (66, [(.int .i64 0), (.emp true .impl_Backend), (.emp true .impl_Vip), (.emp true .impl_Session)]), (74, [(.bool false), (.int .i64 0), (.emp true .impl_Backend), (.emp true .impl_Vip)]), (90, [(.int .i64 0), (.int .i64 0), (.bool false), (.int .i64 0)]), (98, [(.int .i64 0), (.int .i64 0), (.int .i64 0)]), (114, [(.int .i64 0), (.int .i64 0), (.int .i64 0), (.int .i64 0), (.bool false)]), (117, [(.int .i64 0), (.int .i64 0), (.int .i64 0), (.emp true .i64)])]
def tbl : List (Nat × TI) := [(2, ⟨1, 8, false, none, [], false, none, false, none⟩),
  (3, ⟨1, 8, false, none, [], false, none, false, none⟩),
  (4, ⟨1, 1, false, none, [], false, none, true, none⟩),
  (23, ⟨3, 24, true, none, [(0, 2), (1, 4), (2, 2)], false, none, false, none⟩),
  (24, ⟨3, 24, true, none, [(0, 2), (1, 4), (2, 2)], true, none, false, none⟩),
  (26, ⟨5, 40, true, none, [(0, 2), (1, 4), (2, 24)], true, none, false, none⟩),
  (36, ⟨1, 24, false, some 4, [], false, none, false, none⟩),
  (41, ⟨1, 24, false, some 92, [], false, none, false, none⟩),
  (44, ⟨2, 16, true, none, [(0, 2), (1, 2)], true, none, false, none⟩),
  (46, ⟨1, 24, false, some 90, [], false, none, false, none⟩),
  (51, ⟨1, 24, false, some 136, [], false, none, false, none⟩),
  (52, ⟨1, 24, false, some 134, [], false, none, false, none⟩),
  (54, ⟨3, 56, true, none, [(0, 2), (1, 51), (2, 52)], false, none, false, none⟩),
  (55, ⟨1, 24, false, some 122, [], false, none, false, none⟩),
  (57, ⟨4, 80, true, none, [(0, 54), (3, 55)], false, none, false, none⟩),
  (60, ⟨1, 24, false, some 114, [], false, none, false, none⟩),
  (61, ⟨1, 24, false, some 117, [], false, none, false, none⟩),
  (63, ⟨3, 56, true, none, [(0, 2), (1, 60), (2, 61)], false, none, false, none⟩),
  (64, ⟨1, 24, false, some 98, [], false, none, false, none⟩),
  (66, ⟨4, 80, true, none, [(0, 63), (3, 64)], false, none, false, none⟩),
  (70, ⟨4, 64, true, none, [(0, 4), (1, 54)], false, none, false, none⟩),
  (74, ⟨4, 64, true, none, [(0, 4), (1, 63)], false, none, false, none⟩),
  (90, ⟨4, 32, true, none, [(0, 2), (1, 2), (2, 4), (3, 2)], true, none, false, none⟩),
  (92, ⟨4, 32, true, none, [(0, 2), (1, 2), (2, 4), (3, 2)], false, none, false, none⟩),
  (98, ⟨3, 24, true, none, [(0, 2), (1, 2), (2, 2)], false, (some [true, true, true]), false, none⟩),
  (114, ⟨5, 40, true, none, [(0, 2), (1, 2), (2, 2), (3, 2), (4, 4)], false, (some [true, true, true, true, false]), false, none⟩),
  (115, ⟨1, 24, false, some 2, [], false, none, false, none⟩),
  (117, ⟨4, 48, true, none, [(0, 2), (1, 2), (2, 2), (3, 115)], false, none, false, none⟩),
  (122, ⟨3, 24, true, none, [(0, 2), (1, 2), (2, 2)], false, none, false, none⟩),
  (134, ⟨4, 48, true, none, [(0, 2), (1, 2), (2, 2), (3, 115)], false, none, false, none⟩),
  (136, ⟨5, 40, true, none, [(0, 2), (1, 2), (2, 2), (3, 2), (4, 4)], false, none, false, none⟩),
  (146, ⟨1, 24, false, some 3, [], false, none, false, none⟩)]
noncomputable def fnT (f : Nat) : Option Func := match f with
  | 3 => some Try.f3
  | 5 => some Try.f5
  | 6 => some Try.f6
  | 7 => some Try.f7
  | 8 => some Try.f8
  | 9 => some Try.f9
  | 10 => some Try.f10
  | 11 => some Try.f11
  | 12 => some Try.f12
  | 15 => some Try.f15
  | 16 => some Try.f16
  | 17 => some Try.f17
  | 18 => some Try.f18
  | 19 => some Try.f19
  | 20 => some Try.f20
  | 21 => some Try.f21
  | 22 => some Try.f22
  | 23 => some Try.f23
  | 24 => some Try.f24
  | 25 => some Try.f25
  | 26 => some Try.f26
  | 27 => some Try.f27
  | 28 => some Try.f28
  | 29 => some Try.f29
  | 30 => some Try.f30
  | 31 => some Try.f31
  | 32 => some Try.f32
  | 33 => some Try.f33
  | 34 => some Try.f34
  | 35 => some Try.f35
  | 36 => some Try.f36
  | 37 => some Try.f37
  | 38 => some Try.f38
  | 39 => some Try.f39
  | 43 => some Try.f43
  | 44 => some Try.f44
  | 45 => some Try.f45
  | 46 => some Try.f46
  | 47 => some Try.f47
  | 48 => some Try.f48
  | 49 => some Try.f49
  | 50 => some Try.f50
  | 51 => some Try.f51
  | 52 => some Try.f52
  | 53 => some Try.f53
  | 54 => some Try.f54
  | 55 => some Try.f55
  | 56 => some Try.f56
  | 57 => some Try.f57
  | 58 => some Try.f58
  | 59 => some Try.f59
  | 60 => some Try.f60
  | 61 => some Try.f61
  | 62 => some Try.f62
  | 63 => some Try.f63
  | 64 => some Try.f64
  | 65 => some Try.f65
  | 66 => some Try.f66
  | 69 => some Try.f69
  | 70 => some Try.f70
  | 71 => some Try.f71
  | 72 => some Try.f72
  | 73 => some Try.f73
  | 74 => some Try.f74
  | 75 => some Try.f75
  | 76 => some Try.f76
  | 77 => some Try.f77
  | 78 => some Try.f78
  | 79 => some Try.f79
  | 80 => some Try.f80
  | 81 => some Try.f81
  | 82 => some Try.f82
  | 83 => some Try.f83
  | 84 => some Try.f84
  | 85 => some Try.f85
  | 86 => some Try.f86
  | 87 => some Try.f87
  | 88 => some Try.f88
  | 89 => some Try.f89
  | 90 => some Try.f90
  | 91 => some Try.f91
  | 92 => some Try.f92
  | 93 => some Try.f93
  | 94 => some Try.f94
  | 95 => some Try.f95
  | 96 => some Try.f96
  | 97 => some Try.f97
  | 98 => some Try.f98
  | 99 => some Try.f99
  | 100 => some Try.f100
  | 101 => some Try.f101
  | 102 => some Try.f102
  | 103 => some Try.f103
  | 104 => some Try.f104
  | 105 => some Try.f105
  | 106 => some Try.f106
  | 107 => some Try.f107
  | 108 => some Try.f108
  | 109 => some Try.f109
  | 110 => some Try.f110
  | 111 => some Try.f111
  | 112 => some Try.f112
  | _ => none
def parT (f : Nat) : List Nat := []
def R : Vm.Rows RT den := ⟨fun t => rtl.lookup t, sizeR, cellsR, decR, dflt, fun t => zs.lookup t⟩
noncomputable def E : Env RT den := envOf Try.prog tbl R zs fnT parT
theorem rows_ok : RowsOk R tbl where
  size := by intro τ x; cases τ <;> rfl
  dec := by
    intro τ cs x h
    cases τ
    · exact dec_i64_cells cs x h
    · exact dec_bo_cells cs x h
    · exact dec_impl_Verdict_cells cs x h
    · exact dec_impl_Backend_cells cs x h
    · exact dec_impl_Vip_cells cs x h
    · exact dec_impl_Session_cells cs x h
  pure := by intro τ x; cases τ <;> rfl
  rt := rt_of (by kernel_rfl)
theorem fn_ok : ∀ f g, fnT f = some g → Try.prog.funcs[f]? = some g := by
  intro f g h
  unfold fnT at h
  split at h <;> first | (cases h; kernel_rfl) | cases h
theorem E_ok : Ok E Try.prog := envOf_ok (by kernel_rfl) (by kernel_rfl) (by kernel_rfl) fn_ok rows_ok (by kernel_rfl)
def enc_impl_Health (y : S_impl_Health) : D RT den := (.agg [(.int .i64 y.Name), (.bool y.Up), (.int .i64 y.Run)])
def out_impl_Health (d : D RT den) : Option (S_impl_Health) := match d with | .agg [.int .i64 a0_1, .bool a0_2, .int .i64 a0_3] => some (⟨a0_1, a0_2, a0_3⟩ : S_impl_Health) | _ => none
theorem out_impl_Health_enc (d : D RT den) (y : S_impl_Health) (h : out_impl_Health d = some y) : d = enc_impl_Health y := by
  unfold out_impl_Health at h
  split at h
  · cases h; rfl
  · cases h
def enc_bo (y : Bool) : D RT den := (.bool y)
def out_bo (d : D RT den) : Option (Bool) := match d with | .bool a0_0 => some a0_0 | _ => none
theorem out_bo_enc (d : D RT den) (y : Bool) (h : out_bo d = some y) : d = enc_bo y := by
  unfold out_bo at h
  split at h
  · cases h; rfl
  · cases h
def enc_i64 (y : Int) : D RT den := (.int .i64 y)
def out_i64 (d : D RT den) : Option (Int) := match d with | .int .i64 a0_0 => some a0_0 | _ => none
theorem out_i64_enc (d : D RT den) (y : Int) (h : out_i64 d = some y) : d = enc_i64 y := by
  unfold out_i64 at h
  split at h
  · cases h; rfl
  · cases h
def enc_impl_Health_bo (y : S_impl_Health × Bool) : D RT den := (.tup [(.agg [(.int .i64 y.1.Name), (.bool y.1.Up), (.int .i64 y.1.Run)]), (.bool y.2)])
def out_impl_Health_bo (d : D RT den) : Option (S_impl_Health × Bool) := match d with | .tup [.agg [.int .i64 a0_1, .bool a0_2, .int .i64 a0_3], .bool a1_0] => some ((⟨a0_1, a0_2, a0_3⟩ : S_impl_Health), a1_0) | _ => none
theorem out_impl_Health_bo_enc (d : D RT den) (y : S_impl_Health × Bool) (h : out_impl_Health_bo d = some y) : d = enc_impl_Health_bo y := by
  unfold out_impl_Health_bo at h
  split at h
  · cases h; rfl
  · cases h
def enc_impl_HealthResult (y : S_impl_HealthResult) : D RT den := (.agg [(.int .i64 y.Code), (.bool y.Turned), (.int .i64 y.Health.Name), (.bool y.Health.Up), (.int .i64 y.Health.Run)])
def out_impl_HealthResult (d : D RT den) : Option (S_impl_HealthResult) := match d with | .agg [.int .i64 a0_1, .bool a0_2, .int .i64 a0_4, .bool a0_5, .int .i64 a0_6] => some (⟨a0_1, a0_2, (⟨a0_4, a0_5, a0_6⟩ : S_impl_Health)⟩ : S_impl_HealthResult) | _ => none
theorem out_impl_HealthResult_enc (d : D RT den) (y : S_impl_HealthResult) (h : out_impl_HealthResult d = some y) : d = enc_impl_HealthResult y := by
  unfold out_impl_HealthResult at h
  split at h
  · cases h; rfl
  · cases h
def enc_sl_bo (y : (Sl Bool)) : D RT den := (.rs y.z .bo y.n y.f)
def out_sl_bo (d : D RT den) : Option ((Sl Bool)) := match d with | .rs za0_0 .bo na0_0 fa0_0 => some (⟨za0_0, na0_0, fa0_0⟩ : (Sl Bool)) | _ => none
theorem out_sl_bo_enc (d : D RT den) (y : (Sl Bool)) (h : out_sl_bo d = some y) : d = enc_sl_bo y := by
  unfold out_sl_bo at h
  split at h
  · cases h; rfl
  · cases h
def enc_impl_Verdict (y : S_impl_Verdict) : D RT den := (.agg [(.int .i64 y.Prober), (.int .i64 y.Name), (.bool y.Up), (.int .i64 y.Epoch)])
def out_impl_Verdict (d : D RT den) : Option (S_impl_Verdict) := match d with | .agg [.int .i64 a0_1, .int .i64 a0_2, .bool a0_3, .int .i64 a0_4] => some (⟨a0_1, a0_2, a0_3, a0_4⟩ : S_impl_Verdict) | _ => none
theorem out_impl_Verdict_enc (d : D RT den) (y : S_impl_Verdict) (h : out_impl_Verdict d = some y) : d = enc_impl_Verdict y := by
  unfold out_impl_Verdict at h
  split at h
  · cases h; rfl
  · cases h
def enc_sl_impl_Verdict (y : (Sl S_impl_Verdict)) : D RT den := (.rs y.z .impl_Verdict y.n y.f)
def out_sl_impl_Verdict (d : D RT den) : Option ((Sl S_impl_Verdict)) := match d with | .rs za0_0 .impl_Verdict na0_0 fa0_0 => some (⟨za0_0, na0_0, fa0_0⟩ : (Sl S_impl_Verdict)) | _ => none
theorem out_sl_impl_Verdict_enc (d : D RT den) (y : (Sl S_impl_Verdict)) (h : out_sl_impl_Verdict d = some y) : d = enc_sl_impl_Verdict y := by
  unfold out_sl_impl_Verdict at h
  split at h
  · cases h; rfl
  · cases h
def enc_impl_IntResult (y : S_impl_IntResult) : D RT den := (.agg [(.int .i64 y.Code), (.int .i64 y.Value)])
def out_impl_IntResult (d : D RT den) : Option (S_impl_IntResult) := match d with | .agg [.int .i64 a0_1, .int .i64 a0_2] => some (⟨a0_1, a0_2⟩ : S_impl_IntResult) | _ => none
theorem out_impl_IntResult_enc (d : D RT den) (y : S_impl_IntResult) (h : out_impl_IntResult d = some y) : d = enc_impl_IntResult y := by
  unfold out_impl_IntResult at h
  split at h
  · cases h; rfl
  · cases h
def enc_impl_Backend (y : S_impl_Backend) : D RT den := (.agg [(.int .i64 y.Name), (.int .i64 y.Address), (.int .i64 y.Weight), (.int .i64 y.Stage), (.bool y.Up)])
def out_impl_Backend (d : D RT den) : Option (S_impl_Backend) := match d with | .agg [.int .i64 a0_1, .int .i64 a0_2, .int .i64 a0_3, .int .i64 a0_4, .bool a0_5] => some (⟨a0_1, a0_2, a0_3, a0_4, a0_5⟩ : S_impl_Backend) | _ => none
theorem out_impl_Backend_enc (d : D RT den) (y : S_impl_Backend) (h : out_impl_Backend d = some y) : d = enc_impl_Backend y := by
  unfold out_impl_Backend at h
  split at h
  · cases h; rfl
  · cases h
def enc_sl_impl_Backend (y : (Sl S_impl_Backend)) : D RT den := (.rs y.z .impl_Backend y.n y.f)
def out_sl_impl_Backend (d : D RT den) : Option ((Sl S_impl_Backend)) := match d with | .rs za0_0 .impl_Backend na0_0 fa0_0 => some (⟨za0_0, na0_0, fa0_0⟩ : (Sl S_impl_Backend)) | _ => none
theorem out_sl_impl_Backend_enc (d : D RT den) (y : (Sl S_impl_Backend)) (h : out_sl_impl_Backend d = some y) : d = enc_sl_impl_Backend y := by
  unfold out_sl_impl_Backend at h
  split at h
  · cases h; rfl
  · cases h
def enc_sl_i64 (y : (Sl Int)) : D RT den := (.rs y.z .i64 y.n y.f)
def out_sl_i64 (d : D RT den) : Option ((Sl Int)) := match d with | .rs za0_0 .i64 na0_0 fa0_0 => some (⟨za0_0, na0_0, fa0_0⟩ : (Sl Int)) | _ => none
theorem out_sl_i64_enc (d : D RT den) (y : (Sl Int)) (h : out_sl_i64 d = some y) : d = enc_sl_i64 y := by
  unfold out_sl_i64 at h
  split at h
  · cases h; rfl
  · cases h
def enc_impl_Vip (y : S_impl_Vip) : D RT den := (.agg [(.int .i64 y.Address), (.int .i64 y.Port), (.int .i64 y.Proto), (.rs y.Names.z .i64 y.Names.n y.Names.f)])
def out_impl_Vip (d : D RT den) : Option (S_impl_Vip) := match d with | .agg [.int .i64 a0_1, .int .i64 a0_2, .int .i64 a0_3, .rs za0_4 .i64 na0_4 fa0_4] => some (⟨a0_1, a0_2, a0_3, (⟨za0_4, na0_4, fa0_4⟩ : (Sl Int))⟩ : S_impl_Vip) | _ => none
theorem out_impl_Vip_enc (d : D RT den) (y : S_impl_Vip) (h : out_impl_Vip d = some y) : d = enc_impl_Vip y := by
  unfold out_impl_Vip at h
  split at h
  · cases h; rfl
  · cases h
def enc_sl_impl_Vip (y : (Sl S_impl_Vip)) : D RT den := (.rs y.z .impl_Vip y.n y.f)
def out_sl_impl_Vip (d : D RT den) : Option ((Sl S_impl_Vip)) := match d with | .rs za0_0 .impl_Vip na0_0 fa0_0 => some (⟨za0_0, na0_0, fa0_0⟩ : (Sl S_impl_Vip)) | _ => none
theorem out_sl_impl_Vip_enc (d : D RT den) (y : (Sl S_impl_Vip)) (h : out_sl_impl_Vip d = some y) : d = enc_sl_impl_Vip y := by
  unfold out_sl_impl_Vip at h
  split at h
  · cases h; rfl
  · cases h
def enc_impl_Config (y : S_impl_Config) : D RT den := (.agg [(.int .i64 y.Version), (.rs y.Backends.z .impl_Backend y.Backends.n y.Backends.f), (.rs y.Vips.z .impl_Vip y.Vips.n y.Vips.f)])
def out_impl_Config (d : D RT den) : Option (S_impl_Config) := match d with | .agg [.int .i64 a0_1, .rs za0_2 .impl_Backend na0_2 fa0_2, .rs za0_3 .impl_Vip na0_3 fa0_3] => some (⟨a0_1, (⟨za0_2, na0_2, fa0_2⟩ : (Sl S_impl_Backend)), (⟨za0_3, na0_3, fa0_3⟩ : (Sl S_impl_Vip))⟩ : S_impl_Config) | _ => none
theorem out_impl_Config_enc (d : D RT den) (y : S_impl_Config) (h : out_impl_Config d = some y) : d = enc_impl_Config y := by
  unfold out_impl_Config at h
  split at h
  · cases h; rfl
  · cases h
def enc_impl_Session (y : S_impl_Session) : D RT den := (.agg [(.int .i64 y.Client), (.int .i64 y.Seq), (.int .i64 y.Code)])
def out_impl_Session (d : D RT den) : Option (S_impl_Session) := match d with | .agg [.int .i64 a0_1, .int .i64 a0_2, .int .i64 a0_3] => some (⟨a0_1, a0_2, a0_3⟩ : S_impl_Session) | _ => none
theorem out_impl_Session_enc (d : D RT den) (y : S_impl_Session) (h : out_impl_Session d = some y) : d = enc_impl_Session y := by
  unfold out_impl_Session at h
  split at h
  · cases h; rfl
  · cases h
def enc_sl_impl_Session (y : (Sl S_impl_Session)) : D RT den := (.rs y.z .impl_Session y.n y.f)
def out_sl_impl_Session (d : D RT den) : Option ((Sl S_impl_Session)) := match d with | .rs za0_0 .impl_Session na0_0 fa0_0 => some (⟨za0_0, na0_0, fa0_0⟩ : (Sl S_impl_Session)) | _ => none
theorem out_sl_impl_Session_enc (d : D RT den) (y : (Sl S_impl_Session)) (h : out_sl_impl_Session d = some y) : d = enc_sl_impl_Session y := by
  unfold out_sl_impl_Session at h
  split at h
  · cases h; rfl
  · cases h
def enc_impl_Machine (y : S_impl_Machine) : D RT den := (.agg [(.int .i64 y.Config.Version), (.rs y.Config.Backends.z .impl_Backend y.Config.Backends.n y.Config.Backends.f), (.rs y.Config.Vips.z .impl_Vip y.Config.Vips.n y.Config.Vips.f), (.rs y.Sessions.z .impl_Session y.Sessions.n y.Sessions.f)])
def out_impl_Machine (d : D RT den) : Option (S_impl_Machine) := match d with | .agg [.int .i64 a0_2, .rs za0_3 .impl_Backend na0_3 fa0_3, .rs za0_4 .impl_Vip na0_4 fa0_4, .rs za0_5 .impl_Session na0_5 fa0_5] => some (⟨(⟨a0_2, (⟨za0_3, na0_3, fa0_3⟩ : (Sl S_impl_Backend)), (⟨za0_4, na0_4, fa0_4⟩ : (Sl S_impl_Vip))⟩ : S_impl_Config), (⟨za0_5, na0_5, fa0_5⟩ : (Sl S_impl_Session))⟩ : S_impl_Machine) | _ => none
theorem out_impl_Machine_enc (d : D RT den) (y : S_impl_Machine) (h : out_impl_Machine d = some y) : d = enc_impl_Machine y := by
  unfold out_impl_Machine at h
  split at h
  · cases h; rfl
  · cases h
def enc_impl_Watch (y : S_impl_Watch) : D RT den := (.agg [(.bool y.Ready), (.int .i64 y.Config.Version), (.rs y.Config.Backends.z .impl_Backend y.Config.Backends.n y.Config.Backends.f), (.rs y.Config.Vips.z .impl_Vip y.Config.Vips.n y.Config.Vips.f)])
def out_impl_Watch (d : D RT den) : Option (S_impl_Watch) := match d with | .agg [.bool a0_1, .int .i64 a0_3, .rs za0_4 .impl_Backend na0_4 fa0_4, .rs za0_5 .impl_Vip na0_5 fa0_5] => some (⟨a0_1, (⟨a0_3, (⟨za0_4, na0_4, fa0_4⟩ : (Sl S_impl_Backend)), (⟨za0_5, na0_5, fa0_5⟩ : (Sl S_impl_Vip))⟩ : S_impl_Config)⟩ : S_impl_Watch) | _ => none
theorem out_impl_Watch_enc (d : D RT den) (y : S_impl_Watch) (h : out_impl_Watch d = some y) : d = enc_impl_Watch y := by
  unfold out_impl_Watch at h
  split at h
  · cases h; rfl
  · cases h
end Go.Proofs.Ytnocoglmchnggaa.Pc
