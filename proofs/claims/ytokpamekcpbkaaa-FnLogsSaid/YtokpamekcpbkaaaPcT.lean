/- The tables of the program's types for the value machine. Conditions: none. -/
import Derived.Test.YtokpamekcpbkaaaVmT
import Derived.Test.YtokpamekcpbkaaaVmO
import Derived.Test.YtokpamekcpbkaaaProg
import Derived.KernelRfl
namespace Go.Proofs.Ytokpamekcpbkaaa.Pc
open Go Go.RowKit Go.Proofs Vm
set_option linter.unusedVariables false
set_option linter.unusedSimpArgs false
set_option maxRecDepth 100000
structure S_impl_Cmd where
  Kind : Int
  Expect : Int
  Name : Int
  Addr : Int
  Number : Int
  Proto : Int
structure S_impl_Entry where
  Term : Int
  Client : Int
  Seq : Int
  Cmd : S_impl_Cmd
structure S_impl_EntriesResult where
  Code : Int
  Entries : (Sl S_impl_Entry)
structure S_spec_l1Src where
  Code : (Sl Int)
  At : Int
inductive RT where
  | i64
  | u8
  | impl_Entry

def RT.no : RT → Nat
  | .i64 => 0
  | .u8 => 1
  | .impl_Entry => 2

instance : DecidableEq RT := fun a b => if h : a.no = b.no then isTrue (by cases a <;> cases b <;> first | rfl | (cases h)) else isFalse (fun e => h (by rw [e]))
def den : RT → Type
  | .i64 => Int
  | .u8 => Int
  | .impl_Entry => S_impl_Entry

def W_u8 (n : Int) : Prop := (Lit.int .u8 n).wf = true
def W_sl_u8 (x : (Sl Int)) : Prop := x.n ≤ maxLen ∧ ∀ i, i < x.n → W_u8 (x.f i)
def dflt : (τ : RT) → den τ
  | .i64 => (0 : Int)
  | .u8 => (0 : Int)
  | .impl_Entry => (⟨0, 0, 0, ⟨0, 0, 0, 0, 0, 0⟩⟩ : S_impl_Entry)

def cellsR : (τ : RT) → den τ → List (D RT den)
  | .i64, (x : Int) => [(.int .i64 x)]
  | .u8, (x : Int) => [(.int .u8 x)]
  | .impl_Entry, (x : S_impl_Entry) => [(.int .i64 x.Term), (.int .i64 x.Client), (.int .i64 x.Seq), (.int .i64 x.Cmd.Kind), (.int .i64 x.Cmd.Expect), (.int .i64 x.Cmd.Name), (.int .i64 x.Cmd.Addr), (.int .i64 x.Cmd.Number), (.int .i64 x.Cmd.Proto)]

def dec_i64 (cs : List (D RT den)) : Option Int := match cs with | [.int .i64 a0_0] => some a0_0 | _ => none
theorem dec_i64_cells (cs : List (D RT den)) (x : Int) (h : dec_i64 cs = some x) : cellsR .i64 x = cs := by
  unfold dec_i64 at h
  split at h
  · cases h; rfl
  · cases h
def dec_u8 (cs : List (D RT den)) : Option Int := match cs with | [.int .u8 a0_0] => some a0_0 | _ => none
theorem dec_u8_cells (cs : List (D RT den)) (x : Int) (h : dec_u8 cs = some x) : cellsR .u8 x = cs := by
  unfold dec_u8 at h
  split at h
  · cases h; rfl
  · cases h
def dec_impl_Entry (cs : List (D RT den)) : Option S_impl_Entry := match cs with | [.int .i64 a0_1, .int .i64 a0_2, .int .i64 a0_3, .int .i64 a0_5, .int .i64 a0_6, .int .i64 a0_7, .int .i64 a0_8, .int .i64 a0_9, .int .i64 a0_10] => some (⟨a0_1, a0_2, a0_3, (⟨a0_5, a0_6, a0_7, a0_8, a0_9, a0_10⟩ : S_impl_Cmd)⟩ : S_impl_Entry) | _ => none
theorem dec_impl_Entry_cells (cs : List (D RT den)) (x : S_impl_Entry) (h : dec_impl_Entry cs = some x) : cellsR .impl_Entry x = cs := by
  unfold dec_impl_Entry at h
  split at h
  · cases h; rfl
  · cases h
def decR : (τ : RT) → List (D RT den) → Option (den τ)
  | .i64, cs => dec_i64 cs
  | .u8, cs => dec_u8 cs
  | .impl_Entry, cs => dec_impl_Entry cs

def sizeR : RT → Nat
  | .i64 => 1
  | .u8 => 1
  | .impl_Entry => 9

def sclR : RT → Bool
  | .i64 => true
  | .u8 => true
  | .impl_Entry => true

def nilR : RT → Bool
  | .i64 => false
  | .u8 => false
  | .impl_Entry => false

def rtl : List (Nat × RT) := [(2, .i64), (5, .u8), (45, .impl_Entry)]
def zs : List (Nat × List (D RT den)) := [(2, [(.int .i64 0)]), (38, [(.int .i64 0), (.emp true .impl_Entry)]), (43, [(.int .i64 0), (.int .i64 0), (.int .i64 0), (.int .i64 0), (.int .i64 0), (.int .i64 0)]), (45, [(.int .i64 0), (.int .i64 0), (.int .i64 0), (.int .i64 0), (.int .i64 0), (.int .i64 0), (.int .i64 0), (.int .i64 0), (.int .i64 0)]), (67, [(.emp true .u8), (.int .i64 0)])]
def tbl : List (Nat × TI) := [(2, ⟨1, 8, false, none, [], false, none, false, (some .i64)⟩),
  (4, ⟨1, 1, false, none, [], false, none, true, none⟩),
  (5, ⟨1, 1, false, none, [], false, none, false, (some .u8)⟩),
  (22, ⟨1, 24, false, some 5, [], false, none, false, none⟩),
  (34, ⟨1, 24, false, some 45, [], false, none, false, none⟩),
  (38, ⟨2, 32, true, none, [(0, 2), (1, 34)], true, none, false, none⟩),
  (43, ⟨6, 48, true, none, [(0, 2), (1, 2), (2, 2), (3, 2), (4, 2), (5, 2)], true, (some [true, true, true, true, true, true]), false, none⟩),
  (45, ⟨9, 72, true, none, [(0, 2), (1, 2), (2, 2), (3, 43)], true, (some [true, true, true, true, true, true, true, true, true]), false, none⟩),
  (67, ⟨2, 32, true, none, [(0, 22), (1, 2)], true, none, false, none⟩),
  (71, ⟨1, 24, false, some 2, [], false, none, false, none⟩)]
noncomputable def fnT (f : Nat) : Option Func := match f with
  | 4 => some Try.f4
  | 5 => some Try.f5
  | 11 => some Try.f11
  | 12 => some Try.f12
  | 13 => some Try.f13
  | 14 => some Try.f14
  | 15 => some Try.f15
  | 16 => some Try.f16
  | 17 => some Try.f17
  | 18 => some Try.f18
  | 19 => some Try.f19
  | 20 => some Try.f20
  | 22 => some Try.f22
  | 26 => some Try.f26
  | 27 => some Try.f27
  | 28 => some Try.f28
  | 29 => some Try.f29
  | 30 => some Try.f30
  | 31 => some Try.f31
  | 32 => some Try.f32
  | 33 => some Try.f33
  | 34 => some Try.f34
  | 35 => some Try.f35
  | 36 => some Try.f36
  | 37 => some Try.f37
  | 38 => some Try.f38
  | 39 => some Try.f39
  | 40 => some Try.f40
  | 41 => some Try.f41
  | 42 => some Try.f42
  | 44 => some Try.f44
  | 45 => some Try.f45
  | 46 => some Try.f46
  | 47 => some Try.f47
  | 48 => some Try.f48
  | 49 => some Try.f49
  | 50 => some Try.f50
  | 51 => some Try.f51
  | 52 => some Try.f52
  | 53 => some Try.f53
  | 54 => some Try.f54
  | 55 => some Try.f55
  | 56 => some Try.f56
  | 57 => some Try.f57
  | 58 => some Try.f58
  | 59 => some Try.f59
  | 60 => some Try.f60
  | 61 => some Try.f61
  | 62 => some Try.f62
  | 63 => some Try.f63
  | 64 => some Try.f64
  | _ => none
def parT (f : Nat) : List Nat := []
def R : Vm.Rows RT den := ⟨fun t => rtl.lookup t, sizeR, cellsR, decR, (fun a b => decEq a b), dflt, fun t => zs.lookup t, sclR, nilR⟩
noncomputable def E : Env RT den := envOf Try.prog tbl R zs fnT parT
theorem rows_ok : RowsOk R tbl where
  size := by intro τ x; cases τ <;> rfl
  dec := by
    intro τ cs x h
    cases τ
    · exact dec_i64_cells cs x h
    · exact dec_u8_cells cs x h
    · exact dec_impl_Entry_cells cs x h
  pure := by intro τ x; cases τ <;> rfl
  scl := by intro τ h x; cases τ <;> first | rfl | cases h
  rt := rt_of (by kernel_rfl)
theorem fn_ok : ∀ f g, fnT f = some g → Try.prog.funcs[f]? = some g := by
  intro f g h
  unfold fnT at h
  split at h <;> first | (cases h; kernel_rfl) | cases h
theorem E_ok : Ok E Try.prog := envOf_ok (by kernel_rfl) (by kernel_rfl) (by kernel_rfl) fn_ok rows_ok (by kernel_rfl)
def upd_impl_Entry_0_1 (f : Nat → S_impl_Entry) (j : Nat) (v0 : Int) : Nat → S_impl_Entry := fun i => if i = j then (⟨v0, (f j).Client, (f j).Seq, (f j).Cmd⟩ : S_impl_Entry) else f i
def upd_impl_Entry_1_1 (f : Nat → S_impl_Entry) (j : Nat) (v0 : Int) : Nat → S_impl_Entry := fun i => if i = j then (⟨(f j).Term, v0, (f j).Seq, (f j).Cmd⟩ : S_impl_Entry) else f i
def upd_impl_Entry_3_6 (f : Nat → S_impl_Entry) (j : Nat) (v0 : Int) (v1 : Int) (v2 : Int) (v3 : Int) (v4 : Int) (v5 : Int) : Nat → S_impl_Entry := fun i => if i = j then (⟨(f j).Term, (f j).Client, (f j).Seq, (⟨v0, v1, v2, v3, v4, v5⟩ : S_impl_Cmd)⟩ : S_impl_Entry) else f i
def enc_sl_impl_Entry_H (y : (Sl S_impl_Entry)) : D RT den × List (Ob RT den) := ((.os 0 y.n), [(.row false .impl_Entry y.n y.f)])
def out_sl_impl_Entry_H (d : D RT den) (os : List (Ob RT den)) : Option ((Sl S_impl_Entry)) := match d, os with | .rs za0_0 .impl_Entry na0_0 fa0_0, [] => some (⟨za0_0, na0_0, fa0_0⟩ : (Sl S_impl_Entry)) | _, _ => none
theorem out_sl_impl_Entry_H_enc (d : D RT den) (os : List (Ob RT den)) (y : (Sl S_impl_Entry)) (h : out_sl_impl_Entry_H d os = some y) : (unh 0 d).1 = (enc_sl_impl_Entry_H y).1 ∧ os ++ (unh 0 d).2 = (enc_sl_impl_Entry_H y).2 := by
  unfold out_sl_impl_Entry_H at h
  split at h
  · cases h; exact ⟨rfl, rfl⟩
  · cases h
def enc_i64 (y : Int) : D RT den := (.int .i64 y)
def out_i64 (d : D RT den) : Option (Int) := match d with | .int .i64 a0_0 => some a0_0 | _ => none
theorem out_i64_enc (d : D RT den) (y : Int) (h : out_i64 d = some y) : d = enc_i64 y := by
  unfold out_i64 at h
  split at h
  · cases h; rfl
  · cases h
def enc_impl_EntriesResult_H (y : S_impl_EntriesResult) : D RT den × List (Ob RT den) := ((.agg [(.int .i64 y.Code), (.os 0 y.Entries.n)]), [(.row false .impl_Entry y.Entries.n y.Entries.f)])
def out_impl_EntriesResult_H (d : D RT den) (os : List (Ob RT den)) : Option (S_impl_EntriesResult) := match d, os with | .agg [.int .i64 a0_1, .rs za0_2 .impl_Entry na0_2 fa0_2], [] => some (⟨a0_1, (⟨za0_2, na0_2, fa0_2⟩ : (Sl S_impl_Entry))⟩ : S_impl_EntriesResult) | _, _ => none
theorem out_impl_EntriesResult_H_enc (d : D RT den) (os : List (Ob RT den)) (y : S_impl_EntriesResult) (h : out_impl_EntriesResult_H d os = some y) : (unh 0 d).1 = (enc_impl_EntriesResult_H y).1 ∧ os ++ (unh 0 d).2 = (enc_impl_EntriesResult_H y).2 := by
  unfold out_impl_EntriesResult_H at h
  split at h
  · cases h; exact ⟨rfl, rfl⟩
  · cases h
def enc_bo (y : Bool) : D RT den := (.bool y)
def out_bo (d : D RT den) : Option (Bool) := match d with | .bool a0_0 => some a0_0 | _ => none
theorem out_bo_enc (d : D RT den) (y : Bool) (h : out_bo d = some y) : d = enc_bo y := by
  unfold out_bo at h
  split at h
  · cases h; rfl
  · cases h
def enc_bo_bo_bo_bo (y : Bool × Bool × Bool × Bool) : D RT den := (.tup [(.bool y.1), (.bool y.2.1), (.bool y.2.2.1), (.bool y.2.2.2)])
def out_bo_bo_bo_bo (d : D RT den) : Option (Bool × Bool × Bool × Bool) := match d with | .tup [.bool a0_0, .bool a1_0, .bool a2_0, .bool a3_0] => some (a0_0, a1_0, a2_0, a3_0) | _ => none
theorem out_bo_bo_bo_bo_enc (d : D RT den) (y : Bool × Bool × Bool × Bool) (h : out_bo_bo_bo_bo d = some y) : d = enc_bo_bo_bo_bo y := by
  unfold out_bo_bo_bo_bo at h
  split at h
  · cases h; rfl
  · cases h
def enc_impl_EntriesResult (y : S_impl_EntriesResult) : D RT den := (.agg [(.int .i64 y.Code), (.rs y.Entries.z .impl_Entry y.Entries.n y.Entries.f)])
def out_impl_EntriesResult (d : D RT den) : Option (S_impl_EntriesResult) := match d with | .agg [.int .i64 a0_1, .rs za0_2 .impl_Entry na0_2 fa0_2] => some (⟨a0_1, (⟨za0_2, na0_2, fa0_2⟩ : (Sl S_impl_Entry))⟩ : S_impl_EntriesResult) | _ => none
theorem out_impl_EntriesResult_enc (d : D RT den) (y : S_impl_EntriesResult) (h : out_impl_EntriesResult d = some y) : d = enc_impl_EntriesResult y := by
  unfold out_impl_EntriesResult at h
  split at h
  · cases h; rfl
  · cases h
def enc_sl_impl_Entry_i64_i64_sl_impl_Entry (y : (Sl S_impl_Entry) × Int × Int × (Sl S_impl_Entry)) : D RT den := (.tup [(.rs y.1.z .impl_Entry y.1.n y.1.f), (.int .i64 y.2.1), (.int .i64 y.2.2.1), (.rs y.2.2.2.z .impl_Entry y.2.2.2.n y.2.2.2.f)])
def out_sl_impl_Entry_i64_i64_sl_impl_Entry (d : D RT den) : Option ((Sl S_impl_Entry) × Int × Int × (Sl S_impl_Entry)) := match d with | .tup [.rs za0_0 .impl_Entry na0_0 fa0_0, .int .i64 a1_0, .int .i64 a2_0, .rs za3_0 .impl_Entry na3_0 fa3_0] => some ((⟨za0_0, na0_0, fa0_0⟩ : (Sl S_impl_Entry)), a1_0, a2_0, (⟨za3_0, na3_0, fa3_0⟩ : (Sl S_impl_Entry))) | _ => none
theorem out_sl_impl_Entry_i64_i64_sl_impl_Entry_enc (d : D RT den) (y : (Sl S_impl_Entry) × Int × Int × (Sl S_impl_Entry)) (h : out_sl_impl_Entry_i64_i64_sl_impl_Entry d = some y) : d = enc_sl_impl_Entry_i64_i64_sl_impl_Entry y := by
  unfold out_sl_impl_Entry_i64_i64_sl_impl_Entry at h
  split at h
  · cases h; rfl
  · cases h
def enc_impl_Entry (y : S_impl_Entry) : D RT den := (.agg [(.int .i64 y.Term), (.int .i64 y.Client), (.int .i64 y.Seq), (.int .i64 y.Cmd.Kind), (.int .i64 y.Cmd.Expect), (.int .i64 y.Cmd.Name), (.int .i64 y.Cmd.Addr), (.int .i64 y.Cmd.Number), (.int .i64 y.Cmd.Proto)])
def out_impl_Entry (d : D RT den) : Option (S_impl_Entry) := match d with | .agg [.int .i64 a0_1, .int .i64 a0_2, .int .i64 a0_3, .int .i64 a0_5, .int .i64 a0_6, .int .i64 a0_7, .int .i64 a0_8, .int .i64 a0_9, .int .i64 a0_10] => some (⟨a0_1, a0_2, a0_3, (⟨a0_5, a0_6, a0_7, a0_8, a0_9, a0_10⟩ : S_impl_Cmd)⟩ : S_impl_Entry) | _ => none
theorem out_impl_Entry_enc (d : D RT den) (y : S_impl_Entry) (h : out_impl_Entry d = some y) : d = enc_impl_Entry y := by
  unfold out_impl_Entry at h
  split at h
  · cases h; rfl
  · cases h
end Go.Proofs.Ytokpamekcpbkaaa.Pc
