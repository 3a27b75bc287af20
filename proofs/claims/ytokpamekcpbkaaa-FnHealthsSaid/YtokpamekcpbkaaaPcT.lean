/- The tables of the program's types for the value machine. Conditions: none. -/
import Derived.Test.YtokpamekcpbkaaaVmT
import Derived.Test.YtokpamekcpbkaaaVmO
import Derived.Test.YtokpamekcpbkaaaProg
import Derived.KernelRfl
namespace Go.Proofs.Ytokpamekcpbkaaa.Pc
open Go Go.RowKit Go.Proofs Vm
set_option linter.unusedVariables false
set_option linter.unusedSimpArgs false
set_option maxRecDepth 100000
structure S_spec_l1Src where
  Code : (Sl Int)
  At : Int
structure S_impl_Health where
  Name : Int
  Up : Bool
  Run : Int
structure S_impl_HealthResult where
  Code : Int
  Turned : Bool
  Health : S_impl_Health
inductive RT where
  | i64
  | u8
  | bo

def RT.no : RT → Nat
  | .i64 => 0
  | .u8 => 1
  | .bo => 2

instance : DecidableEq RT := fun a b => if h : a.no = b.no then isTrue (by cases a <;> cases b <;> first | rfl | (cases h)) else isFalse (fun e => h (by rw [e]))
def den : RT → Type
  | .i64 => Int
  | .u8 => Int
  | .bo => Bool

def W_u8 (n : Int) : Prop := (Lit.int .u8 n).wf = true
def W_sl_u8 (x : (Sl Int)) : Prop := x.n ≤ maxLen ∧ ∀ i, i < x.n → W_u8 (x.f i)
def dflt : (τ : RT) → den τ
  | .i64 => (0 : Int)
  | .u8 => (0 : Int)
  | .bo => (false : Bool)

def cellsR : (τ : RT) → den τ → List (D RT den)
  | .i64, (x : Int) => [(.int .i64 x)]
  | .u8, (x : Int) => [(.int .u8 x)]
  | .bo, (x : Bool) => [(.bool x)]

def dec_i64 (cs : List (D RT den)) : Option Int := match cs with | [.int .i64 a0_0] => some a0_0 | _ => none
theorem dec_i64_cells (cs : List (D RT den)) (x : Int) (h : dec_i64 cs = some x) : cellsR .i64 x = cs := by
  unfold dec_i64 at h
  split at h
  · cases h; rfl
  · cases h
def dec_u8 (cs : List (D RT den)) : Option Int := match cs with | [.int .u8 a0_0] => some a0_0 | _ => none
theorem dec_u8_cells (cs : List (D RT den)) (x : Int) (h : dec_u8 cs = some x) : cellsR .u8 x = cs := by
  unfold dec_u8 at h
  split at h
  · cases h; rfl
  · cases h
def dec_bo (cs : List (D RT den)) : Option Bool := match cs with | [.bool a0_0] => some a0_0 | _ => none
theorem dec_bo_cells (cs : List (D RT den)) (x : Bool) (h : dec_bo cs = some x) : cellsR .bo x = cs := by
  unfold dec_bo at h
  split at h
  · cases h; rfl
  · cases h
def decR : (τ : RT) → List (D RT den) → Option (den τ)
  | .i64, cs => dec_i64 cs
  | .u8, cs => dec_u8 cs
  | .bo, cs => dec_bo cs

def sizeR : RT → Nat
  | .i64 => 1
  | .u8 => 1
  | .bo => 1

def sclR : RT → Bool
  | .i64 => true
  | .u8 => true
  | .bo => true

def nilR : RT → Bool
  | .i64 => false
  | .u8 => false
  | .bo => false

def rtl : List (Nat × RT) := [(2, .i64), (4, .bo), (5, .u8)]
def zs : List (Nat × List (D RT den)) := [(2, [(.int .i64 0)]), (4, [(.bool false)]), (25, [(.int .i64 0), (.bool false), (.int .i64 0)]), (29, [(.int .i64 0), (.bool false), (.int .i64 0), (.bool false), (.int .i64 0)]), (67, [(.emp true .u8), (.int .i64 0)])]
def tbl : List (Nat × TI) := [(2, ⟨1, 8, false, none, [], false, none, false, (some .i64)⟩),
  (4, ⟨1, 1, false, none, [], false, none, true, none⟩),
  (5, ⟨1, 1, false, none, [], false, none, false, (some .u8)⟩),
  (22, ⟨1, 24, false, some 5, [], false, none, false, none⟩),
  (25, ⟨3, 24, true, none, [(0, 2), (1, 4), (2, 2)], true, none, false, none⟩),
  (29, ⟨5, 40, true, none, [(0, 2), (1, 4), (2, 25)], true, none, false, none⟩),
  (32, ⟨1, 24, false, some 4, [], false, none, false, none⟩),
  (67, ⟨2, 32, true, none, [(0, 22), (1, 2)], true, none, false, none⟩),
  (71, ⟨1, 24, false, some 2, [], false, none, false, none⟩)]
noncomputable def fnT (f : Nat) : Option Func := match f with
  | 3 => some Try.f3
  | 5 => some Try.f5
  | 6 => some Try.f6
  | 7 => some Try.f7
  | 8 => some Try.f8
  | 9 => some Try.f9
  | 10 => some Try.f10
  | 20 => some Try.f20
  | 21 => some Try.f21
  | 22 => some Try.f22
  | 23 => some Try.f23
  | 24 => some Try.f24
  | 25 => some Try.f25
  | 26 => some Try.f26
  | 27 => some Try.f27
  | 30 => some Try.f30
  | 32 => some Try.f32
  | 43 => some Try.f43
  | 44 => some Try.f44
  | 45 => some Try.f45
  | _ => none
def parT (f : Nat) : List Nat := []
def R : Vm.Rows RT den := ⟨fun t => rtl.lookup t, sizeR, cellsR, decR, (fun a b => decEq a b), dflt, fun t => zs.lookup t, sclR, nilR⟩
noncomputable def E : Env RT den := envOf Try.prog tbl R zs fnT parT
theorem rows_ok : RowsOk R tbl where
  size := by intro τ x; cases τ <;> rfl
  dec := by
    intro τ cs x h
    cases τ
    · exact dec_i64_cells cs x h
    · exact dec_u8_cells cs x h
    · exact dec_bo_cells cs x h
  pure := by intro τ x; cases τ <;> rfl
  scl := by intro τ h x; cases τ <;> first | rfl | cases h
  rt := rt_of (by kernel_rfl)
theorem fn_ok : ∀ f g, fnT f = some g → Try.prog.funcs[f]? = some g := by
  intro f g h
  unfold fnT at h
  split at h <;> first | (cases h; kernel_rfl) | cases h
theorem E_ok : Ok E Try.prog := envOf_ok (by kernel_rfl) (by kernel_rfl) (by kernel_rfl) fn_ok rows_ok (by kernel_rfl)
def enc_bo (y : Bool) : D RT den := (.bool y)
def out_bo (d : D RT den) : Option (Bool) := match d with | .bool a0_0 => some a0_0 | _ => none
theorem out_bo_enc (d : D RT den) (y : Bool) (h : out_bo d = some y) : d = enc_bo y := by
  unfold out_bo at h
  split at h
  · cases h; rfl
  · cases h
def enc_i64 (y : Int) : D RT den := (.int .i64 y)
def out_i64 (d : D RT den) : Option (Int) := match d with | .int .i64 a0_0 => some a0_0 | _ => none
theorem out_i64_enc (d : D RT den) (y : Int) (h : out_i64 d = some y) : d = enc_i64 y := by
  unfold out_i64 at h
  split at h
  · cases h; rfl
  · cases h
def enc_impl_Health_bo (y : S_impl_Health × Bool) : D RT den := (.tup [(.agg [(.int .i64 y.1.Name), (.bool y.1.Up), (.int .i64 y.1.Run)]), (.bool y.2)])
def out_impl_Health_bo (d : D RT den) : Option (S_impl_Health × Bool) := match d with | .tup [.agg [.int .i64 a0_1, .bool a0_2, .int .i64 a0_3], .bool a1_0] => some ((⟨a0_1, a0_2, a0_3⟩ : S_impl_Health), a1_0) | _ => none
theorem out_impl_Health_bo_enc (d : D RT den) (y : S_impl_Health × Bool) (h : out_impl_Health_bo d = some y) : d = enc_impl_Health_bo y := by
  unfold out_impl_Health_bo at h
  split at h
  · cases h; rfl
  · cases h
def enc_impl_HealthResult (y : S_impl_HealthResult) : D RT den := (.agg [(.int .i64 y.Code), (.bool y.Turned), (.int .i64 y.Health.Name), (.bool y.Health.Up), (.int .i64 y.Health.Run)])
def out_impl_HealthResult (d : D RT den) : Option (S_impl_HealthResult) := match d with | .agg [.int .i64 a0_1, .bool a0_2, .int .i64 a0_4, .bool a0_5, .int .i64 a0_6] => some (⟨a0_1, a0_2, (⟨a0_4, a0_5, a0_6⟩ : S_impl_Health)⟩ : S_impl_HealthResult) | _ => none
theorem out_impl_HealthResult_enc (d : D RT den) (y : S_impl_HealthResult) (h : out_impl_HealthResult d = some y) : d = enc_impl_HealthResult y := by
  unfold out_impl_HealthResult at h
  split at h
  · cases h; rfl
  · cases h
end Go.Proofs.Ytokpamekcpbkaaa.Pc
