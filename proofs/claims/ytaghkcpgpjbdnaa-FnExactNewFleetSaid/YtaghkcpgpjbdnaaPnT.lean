/- The tables of the program's types for the value machine. Conditions: none. -/
import Derived.Test.YtaghkcpgpjbdnaaVmS
import Derived.Test.YtaghkcpgpjbdnaaVmO
import Derived.Test.YtaghkcpgpjbdnaaProg
import Derived.KernelRfl
namespace Go.Proofs.Ytaghkcpgpjbdnaa.Pn
open Go Go.RowKit Go.Proofs Vm
set_option linter.unusedVariables false
set_option linter.unusedSimpArgs false
set_option maxRecDepth 100000
structure S_impl_Cmd where
  Kind : Int
  Expect : Int
  Name : Int
  Addr : Int
  Number : Int
  Proto : Int
structure S_impl_Entry where
  Term : Int
  Client : Int
  Seq : Int
  Cmd : S_impl_Cmd
structure S_impl_Backend where
  Name : Int
  Address : Int
  Weight : Int
  Stage : Int
  Up : Bool
structure S_impl_Vip where
  Address : Int
  Port : Int
  Proto : Int
  Names : (Sl Int)
structure S_impl_Config where
  Version : Int
  Backends : (Sl S_impl_Backend)
  Vips : (Sl S_impl_Vip)
structure S_impl_Watch where
  Ready : Bool
  Config : S_impl_Config
structure S_impl_Flow where
  From : Int
  To : Int
  Proto : Int
  FromP : Int
  ToP : Int
structure S_impl_Held where
  Flow : S_impl_Flow
  Name : Int
  Seen : Int
structure S_impl_Mux where
  Address : Int
  Now : Int
  Watch : S_impl_Watch
  Tables : (Sl (Sl Int))
  Cache : (Sl S_impl_Held)
structure S_impl_Mux_0 where
  Address : Int
  Now : Int
  Watch_Ready : Bool
  Watch_Config_Version : Int
structure S_impl_Fleet where
  Agreed : (Sl S_impl_Entry)
  Muxes : (Sl S_impl_Mux_0)
structure S_impl_FleetResult where
  Code : Int
  Why : Int
  Name : Int
  Out : (Sl Int)
  Fleet : S_impl_Fleet
inductive RT where
  | i64
  | u8
  | impl_Entry
  | impl_Backend
  | impl_Vip
  | sl_i64
  | impl_Held
  | impl_Mux

def RT.no : RT → Nat
  | .i64 => 0
  | .u8 => 1
  | .impl_Entry => 2
  | .impl_Backend => 3
  | .impl_Vip => 4
  | .sl_i64 => 5
  | .impl_Held => 6
  | .impl_Mux => 7

instance : DecidableEq RT := fun a b => if h : a.no = b.no then isTrue (by cases a <;> cases b <;> first | rfl | (cases h)) else isFalse (fun e => h (by rw [e]))
def den : RT → Type
  | .i64 => Int
  | .u8 => Int
  | .impl_Entry => S_impl_Entry
  | .impl_Backend => S_impl_Backend
  | .impl_Vip => S_impl_Vip
  | .sl_i64 => (Sl Int)
  | .impl_Held => S_impl_Held
  | .impl_Mux => S_impl_Mux_0

def W_i64 (n : Int) : Prop := (Lit.int .i64 n).wf = true
def dflt : (τ : RT) → den τ
  | .i64 => (0 : Int)
  | .u8 => (0 : Int)
  | .impl_Entry => (⟨0, 0, 0, ⟨0, 0, 0, 0, 0, 0⟩⟩ : S_impl_Entry)
  | .impl_Backend => (⟨0, 0, 0, 0, false⟩ : S_impl_Backend)
  | .impl_Vip => (⟨0, 0, 0, ⟨some true, 0, fun _ => 0⟩⟩ : S_impl_Vip)
  | .sl_i64 => (⟨some true, 0, fun _ => 0⟩ : (Sl Int))
  | .impl_Held => (⟨⟨0, 0, 0, 0, 0⟩, 0, 0⟩ : S_impl_Held)
  | .impl_Mux => (⟨0, 0, false, 0⟩ : S_impl_Mux_0)

def cellsR : (τ : RT) → den τ → List (D RT den)
  | .i64, (x : Int) => [(.int .i64 x)]
  | .u8, (x : Int) => [(.int .u8 x)]
  | .impl_Entry, (x : S_impl_Entry) => [(.int .i64 x.Term), (.int .i64 x.Client), (.int .i64 x.Seq), (.int .i64 x.Cmd.Kind), (.int .i64 x.Cmd.Expect), (.int .i64 x.Cmd.Name), (.int .i64 x.Cmd.Addr), (.int .i64 x.Cmd.Number), (.int .i64 x.Cmd.Proto)]
  | .impl_Backend, (x : S_impl_Backend) => [(.int .i64 x.Name), (.int .i64 x.Address), (.int .i64 x.Weight), (.int .i64 x.Stage), (.bool x.Up)]
  | .impl_Vip, (x : S_impl_Vip) => [(.int .i64 x.Address), (.int .i64 x.Port), (.int .i64 x.Proto), (.rs x.Names.z .i64 x.Names.n x.Names.f)]
  | .sl_i64, (x : (Sl Int)) => [(.rs x.z .i64 x.n x.f)]
  | .impl_Held, (x : S_impl_Held) => [(.int .i64 x.Flow.From), (.int .i64 x.Flow.To), (.int .i64 x.Flow.Proto), (.int .i64 x.Flow.FromP), (.int .i64 x.Flow.ToP), (.int .i64 x.Name), (.int .i64 x.Seen)]
  | .impl_Mux, (x : S_impl_Mux_0) => [(.int .i64 x.Address), (.int .i64 x.Now), (.bool x.Watch_Ready), (.int .i64 x.Watch_Config_Version), (.emp true .impl_Backend), (.emp true .impl_Vip), (.emp true .sl_i64), (.emp true .impl_Held)]

def dec_i64 (cs : List (D RT den)) : Option Int := match cs with | [.int .i64 a0_0] => some a0_0 | _ => none
theorem dec_i64_cells (cs : List (D RT den)) (x : Int) (h : dec_i64 cs = some x) : cellsR .i64 x = cs := by
  unfold dec_i64 at h
  split at h
  · cases h; rfl
  · cases h
def dec_u8 (cs : List (D RT den)) : Option Int := match cs with | [.int .u8 a0_0] => some a0_0 | _ => none
theorem dec_u8_cells (cs : List (D RT den)) (x : Int) (h : dec_u8 cs = some x) : cellsR .u8 x = cs := by
  unfold dec_u8 at h
  split at h
  · cases h; rfl
  · cases h
def dec_impl_Entry (cs : List (D RT den)) : Option S_impl_Entry := match cs with | [.int .i64 a0_1, .int .i64 a0_2, .int .i64 a0_3, .int .i64 a0_5, .int .i64 a0_6, .int .i64 a0_7, .int .i64 a0_8, .int .i64 a0_9, .int .i64 a0_10] => some (⟨a0_1, a0_2, a0_3, (⟨a0_5, a0_6, a0_7, a0_8, a0_9, a0_10⟩ : S_impl_Cmd)⟩ : S_impl_Entry) | _ => none
theorem dec_impl_Entry_cells (cs : List (D RT den)) (x : S_impl_Entry) (h : dec_impl_Entry cs = some x) : cellsR .impl_Entry x = cs := by
  unfold dec_impl_Entry at h
  split at h
  · cases h; rfl
  · cases h
def dec_impl_Backend (cs : List (D RT den)) : Option S_impl_Backend := match cs with | [.int .i64 a0_1, .int .i64 a0_2, .int .i64 a0_3, .int .i64 a0_4, .bool a0_5] => some (⟨a0_1, a0_2, a0_3, a0_4, a0_5⟩ : S_impl_Backend) | _ => none
theorem dec_impl_Backend_cells (cs : List (D RT den)) (x : S_impl_Backend) (h : dec_impl_Backend cs = some x) : cellsR .impl_Backend x = cs := by
  unfold dec_impl_Backend at h
  split at h
  · cases h; rfl
  · cases h
def dec_impl_Vip (cs : List (D RT den)) : Option S_impl_Vip := match cs with | [.int .i64 a0_1, .int .i64 a0_2, .int .i64 a0_3, .rs za0_4 .i64 na0_4 fa0_4] => some (⟨a0_1, a0_2, a0_3, (⟨za0_4, na0_4, fa0_4⟩ : (Sl Int))⟩ : S_impl_Vip) | _ => none
theorem dec_impl_Vip_cells (cs : List (D RT den)) (x : S_impl_Vip) (h : dec_impl_Vip cs = some x) : cellsR .impl_Vip x = cs := by
  unfold dec_impl_Vip at h
  split at h
  · cases h; rfl
  · cases h
def dec_sl_i64 (cs : List (D RT den)) : Option (Sl Int) := match cs with | [.rs za0_0 .i64 na0_0 fa0_0] => some (⟨za0_0, na0_0, fa0_0⟩ : (Sl Int)) | _ => none
theorem dec_sl_i64_cells (cs : List (D RT den)) (x : (Sl Int)) (h : dec_sl_i64 cs = some x) : cellsR .sl_i64 x = cs := by
  unfold dec_sl_i64 at h
  split at h
  · cases h; rfl
  · cases h
def dec_impl_Held (cs : List (D RT den)) : Option S_impl_Held := match cs with | [.int .i64 a0_2, .int .i64 a0_3, .int .i64 a0_4, .int .i64 a0_5, .int .i64 a0_6, .int .i64 a0_7, .int .i64 a0_8] => some (⟨(⟨a0_2, a0_3, a0_4, a0_5, a0_6⟩ : S_impl_Flow), a0_7, a0_8⟩ : S_impl_Held) | _ => none
theorem dec_impl_Held_cells (cs : List (D RT den)) (x : S_impl_Held) (h : dec_impl_Held cs = some x) : cellsR .impl_Held x = cs := by
  unfold dec_impl_Held at h
  split at h
  · cases h; rfl
  · cases h
def dec_impl_Mux (cs : List (D RT den)) : Option S_impl_Mux_0 := match cs with | [.int .i64 a0_0, .int .i64 a1_0, .bool a2_0, .int .i64 a3_0, .emp true .impl_Backend, .emp true .impl_Vip, .emp true .sl_i64, .emp true .impl_Held] => some (⟨a0_0, a1_0, a2_0, a3_0⟩ : S_impl_Mux_0) | _ => none
theorem dec_impl_Mux_cells (cs : List (D RT den)) (x : S_impl_Mux_0) (h : dec_impl_Mux cs = some x) : cellsR .impl_Mux x = cs := by
  unfold dec_impl_Mux at h
  split at h
  · cases h; rfl
  · cases h
def decR : (τ : RT) → List (D RT den) → Option (den τ)
  | .i64, cs => dec_i64 cs
  | .u8, cs => dec_u8 cs
  | .impl_Entry, cs => dec_impl_Entry cs
  | .impl_Backend, cs => dec_impl_Backend cs
  | .impl_Vip, cs => dec_impl_Vip cs
  | .sl_i64, cs => dec_sl_i64 cs
  | .impl_Held, cs => dec_impl_Held cs
  | .impl_Mux, cs => dec_impl_Mux cs

def sizeR : RT → Nat
  | .i64 => 1
  | .u8 => 1
  | .impl_Entry => 9
  | .impl_Backend => 5
  | .impl_Vip => 4
  | .sl_i64 => 1
  | .impl_Held => 7
  | .impl_Mux => 8

def sclR : RT → Bool
  | .i64 => true
  | .u8 => true
  | .impl_Entry => true
  | .impl_Backend => true
  | .impl_Vip => false
  | .sl_i64 => false
  | .impl_Held => true
  | .impl_Mux => true

def nilR : RT → Bool
  | .i64 => false
  | .u8 => false
  | .impl_Entry => false
  | .impl_Backend => false
  | .impl_Vip => false
  | .sl_i64 => false
  | .impl_Held => false
  | .impl_Mux => true

def rtl : List (Nat × RT) := [(2, .i64), (5, .u8), (32, .impl_Mux), (68, .sl_i64), (73, .impl_Held), (80, .impl_Entry), (88, .impl_Backend), (90, .impl_Vip)]
def zs : List (Nat × List (D RT den)) := [(32, [(.int .i64 0), (.int .i64 0), (.bool false), (.int .i64 0), (.emp true .impl_Backend), (.emp true .impl_Vip), (.emp true .sl_i64), (.emp true .impl_Held)]), (42, [(.emp true .impl_Entry), (.emp true .impl_Mux)]), (44, [(.int .i64 0), (.int .i64 0), (.int .i64 0), (.emp true .u8), (.emp true .impl_Entry), (.emp true .impl_Mux)])]
def tbl : List (Nat × TI) := [(2, ⟨1, 8, false, none, [], false, none, false, none⟩),
  (3, ⟨1, 8, false, none, [], false, none, false, (some .i64)⟩),
  (4, ⟨1, 1, false, none, [], false, none, true, none⟩),
  (5, ⟨1, 1, false, none, [], false, none, false, (some .u8)⟩),
  (22, ⟨1, 24, false, some 5, [], false, none, false, none⟩),
  (23, ⟨1, 24, false, some 88, [], false, none, false, none⟩),
  (24, ⟨1, 24, false, some 90, [], false, none, false, none⟩),
  (26, ⟨3, 56, true, none, [(0, 2), (1, 23), (2, 24)], false, none, false, none⟩),
  (28, ⟨4, 64, true, none, [(0, 4), (1, 26)], false, none, false, none⟩),
  (29, ⟨1, 24, false, some 68, [], false, none, false, none⟩),
  (30, ⟨1, 24, false, some 73, [], false, none, false, none⟩),
  (32, ⟨8, 128, true, none, [(0, 2), (1, 2), (2, 28), (6, 29), (7, 30)], true, none, false, none⟩),
  (39, ⟨1, 24, false, some 80, [], false, none, false, none⟩),
  (40, ⟨1, 24, false, some 32, [], false, none, false, none⟩),
  (42, ⟨2, 48, true, none, [(0, 39), (1, 40)], true, none, false, none⟩),
  (44, ⟨6, 96, true, none, [(0, 2), (1, 2), (2, 2), (3, 22), (4, 42)], true, none, false, none⟩),
  (68, ⟨1, 24, false, some 2, [], false, none, false, none⟩),
  (71, ⟨5, 40, true, none, [(0, 2), (1, 2), (2, 2), (3, 2), (4, 2)], false, none, false, none⟩),
  (73, ⟨7, 56, true, none, [(0, 71), (5, 2), (6, 2)], false, none, false, none⟩),
  (78, ⟨6, 48, true, none, [(0, 2), (1, 2), (2, 2), (3, 2), (4, 2), (5, 2)], false, none, false, none⟩),
  (80, ⟨9, 72, true, none, [(0, 2), (1, 2), (2, 2), (3, 78)], false, none, false, none⟩),
  (88, ⟨5, 40, true, none, [(0, 2), (1, 2), (2, 2), (3, 2), (4, 4)], false, none, false, none⟩),
  (90, ⟨4, 48, true, none, [(0, 2), (1, 2), (2, 2), (3, 68)], false, none, false, none⟩)]
noncomputable def fnT (f : Nat) : Option Func := match f with
  | 4 => some Try.f4
  | 10 => some Try.f10
  | 11 => some Try.f11
  | 12 => some Try.f12
  | 13 => some Try.f13
  | 14 => some Try.f14
  | 18 => some Try.f18
  | 19 => some Try.f19
  | 20 => some Try.f20
  | 22 => some Try.f22
  | 24 => some Try.f24
  | 25 => some Try.f25
  | 26 => some Try.f26
  | 27 => some Try.f27
  | 28 => some Try.f28
  | 29 => some Try.f29
  | 30 => some Try.f30
  | 31 => some Try.f31
  | 32 => some Try.f32
  | 33 => some Try.f33
  | 35 => some Try.f35
  | 36 => some Try.f36
  | 38 => some Try.f38
  | 39 => some Try.f39
  | 40 => some Try.f40
  | 41 => some Try.f41
  | 42 => some Try.f42
  | 43 => some Try.f43
  | 44 => some Try.f44
  | 45 => some Try.f45
  | 46 => some Try.f46
  | 47 => some Try.f47
  | 48 => some Try.f48
  | 52 => some Try.f52
  | 53 => some Try.f53
  | 54 => some Try.f54
  | 55 => some Try.f55
  | 56 => some Try.f56
  | 57 => some Try.f57
  | 58 => some Try.f58
  | 59 => some Try.f59
  | 60 => some Try.f60
  | 61 => some Try.f61
  | 62 => some Try.f62
  | 63 => some Try.f63
  | _ => none
def parT (f : Nat) : List Nat := []
def R : Vm.Rows RT den := ⟨fun t => rtl.lookup t, sizeR, cellsR, decR, (fun a b => decEq a b), dflt, fun t => zs.lookup t, sclR, nilR⟩
noncomputable def E : Env RT den := envOf Try.prog tbl R zs fnT parT
theorem rows_ok : RowsOk R tbl where
  size := by intro τ x; cases τ <;> rfl
  dec := by
    intro τ cs x h
    cases τ
    · exact dec_i64_cells cs x h
    · exact dec_u8_cells cs x h
    · exact dec_impl_Entry_cells cs x h
    · exact dec_impl_Backend_cells cs x h
    · exact dec_impl_Vip_cells cs x h
    · exact dec_sl_i64_cells cs x h
    · exact dec_impl_Held_cells cs x h
    · exact dec_impl_Mux_cells cs x h
  pure := by intro τ x; cases τ <;> rfl
  scl := by intro τ h x; cases τ <;> first | rfl | cases h
  rt := rt_of (by kernel_rfl)
theorem fn_ok : ∀ f g, fnT f = some g → Try.prog.funcs[f]? = some g := by
  intro f g h
  unfold fnT at h
  split at h <;> first | (cases h; kernel_rfl) | cases h
theorem E_ok : Ok E Try.prog := envOf_ok (by kernel_rfl) (by kernel_rfl) (by kernel_rfl) fn_ok rows_ok (by kernel_rfl)
def upd_impl_Entry_0_1 (f : Nat → S_impl_Entry) (j : Nat) (v0 : Int) : Nat → S_impl_Entry := fun i => if i = j then (⟨v0, (f j).Client, (f j).Seq, (f j).Cmd⟩ : S_impl_Entry) else f i
def upd_impl_Entry_1_1 (f : Nat → S_impl_Entry) (j : Nat) (v0 : Int) : Nat → S_impl_Entry := fun i => if i = j then (⟨(f j).Term, v0, (f j).Seq, (f j).Cmd⟩ : S_impl_Entry) else f i
def upd_impl_Entry_2_1 (f : Nat → S_impl_Entry) (j : Nat) (v0 : Int) : Nat → S_impl_Entry := fun i => if i = j then (⟨(f j).Term, (f j).Client, v0, (f j).Cmd⟩ : S_impl_Entry) else f i
def upd_impl_Entry_3_1 (f : Nat → S_impl_Entry) (j : Nat) (v0 : Int) : Nat → S_impl_Entry := fun i => if i = j then (⟨(f j).Term, (f j).Client, (f j).Seq, (⟨v0, (f j).Cmd.Expect, (f j).Cmd.Name, (f j).Cmd.Addr, (f j).Cmd.Number, (f j).Cmd.Proto⟩ : S_impl_Cmd)⟩ : S_impl_Entry) else f i
def upd_impl_Entry_4_1 (f : Nat → S_impl_Entry) (j : Nat) (v0 : Int) : Nat → S_impl_Entry := fun i => if i = j then (⟨(f j).Term, (f j).Client, (f j).Seq, (⟨(f j).Cmd.Kind, v0, (f j).Cmd.Name, (f j).Cmd.Addr, (f j).Cmd.Number, (f j).Cmd.Proto⟩ : S_impl_Cmd)⟩ : S_impl_Entry) else f i
def upd_impl_Entry_5_1 (f : Nat → S_impl_Entry) (j : Nat) (v0 : Int) : Nat → S_impl_Entry := fun i => if i = j then (⟨(f j).Term, (f j).Client, (f j).Seq, (⟨(f j).Cmd.Kind, (f j).Cmd.Expect, v0, (f j).Cmd.Addr, (f j).Cmd.Number, (f j).Cmd.Proto⟩ : S_impl_Cmd)⟩ : S_impl_Entry) else f i
def upd_impl_Entry_6_1 (f : Nat → S_impl_Entry) (j : Nat) (v0 : Int) : Nat → S_impl_Entry := fun i => if i = j then (⟨(f j).Term, (f j).Client, (f j).Seq, (⟨(f j).Cmd.Kind, (f j).Cmd.Expect, (f j).Cmd.Name, v0, (f j).Cmd.Number, (f j).Cmd.Proto⟩ : S_impl_Cmd)⟩ : S_impl_Entry) else f i
def upd_impl_Entry_7_1 (f : Nat → S_impl_Entry) (j : Nat) (v0 : Int) : Nat → S_impl_Entry := fun i => if i = j then (⟨(f j).Term, (f j).Client, (f j).Seq, (⟨(f j).Cmd.Kind, (f j).Cmd.Expect, (f j).Cmd.Name, (f j).Cmd.Addr, v0, (f j).Cmd.Proto⟩ : S_impl_Cmd)⟩ : S_impl_Entry) else f i
def upd_impl_Entry_8_1 (f : Nat → S_impl_Entry) (j : Nat) (v0 : Int) : Nat → S_impl_Entry := fun i => if i = j then (⟨(f j).Term, (f j).Client, (f j).Seq, (⟨(f j).Cmd.Kind, (f j).Cmd.Expect, (f j).Cmd.Name, (f j).Cmd.Addr, (f j).Cmd.Number, v0⟩ : S_impl_Cmd)⟩ : S_impl_Entry) else f i
def upd_impl_Mux_0_1 (f : Nat → S_impl_Mux_0) (j : Nat) (v0 : Int) : Nat → S_impl_Mux_0 := fun i => if i = j then (⟨v0, (f j).Now, (f j).Watch_Ready, (f j).Watch_Config_Version⟩ : S_impl_Mux_0) else f i
def upd_impl_Mux_1_1 (f : Nat → S_impl_Mux_0) (j : Nat) (v0 : Int) : Nat → S_impl_Mux_0 := fun i => if i = j then (⟨(f j).Address, v0, (f j).Watch_Ready, (f j).Watch_Config_Version⟩ : S_impl_Mux_0) else f i
def upd_impl_Mux_2_1 (f : Nat → S_impl_Mux_0) (j : Nat) (v0 : Bool) : Nat → S_impl_Mux_0 := fun i => if i = j then (⟨(f j).Address, (f j).Now, v0, (f j).Watch_Config_Version⟩ : S_impl_Mux_0) else f i
def upd_impl_Mux_3_1 (f : Nat → S_impl_Mux_0) (j : Nat) (v0 : Int) : Nat → S_impl_Mux_0 := fun i => if i = j then (⟨(f j).Address, (f j).Now, (f j).Watch_Ready, v0⟩ : S_impl_Mux_0) else f i
def enc_impl_FleetResult_E (y : S_impl_FleetResult) : D RT den × List (Ob RT den) := ((.agg [(.int .i64 y.Code), (.int .i64 y.Why), (.int .i64 y.Name), (.emp true .u8), (.emp true .impl_Entry), (.emp true .impl_Mux)]), [])
def out_impl_FleetResult_E (d : D RT den) (os : List (Ob RT den)) : Option (S_impl_FleetResult) := match d, os with | .agg [.int .i64 a0_1, .int .i64 a0_2, .int .i64 a0_3, .emp true .u8, .emp true .impl_Entry, .emp true .impl_Mux], [] => some (⟨a0_1, a0_2, a0_3, (⟨some true, 0, fun _ => dflt .u8⟩ : (Sl Int)), (⟨(⟨some true, 0, fun _ => dflt .impl_Entry⟩ : (Sl S_impl_Entry)), (⟨some true, 0, fun _ => dflt .impl_Mux⟩ : (Sl S_impl_Mux_0))⟩ : S_impl_Fleet)⟩ : S_impl_FleetResult) | _, _ => none
theorem out_impl_FleetResult_E_enc (d : D RT den) (os : List (Ob RT den)) (y : S_impl_FleetResult) (h : out_impl_FleetResult_E d os = some y) : (unh 0 d).1 = (enc_impl_FleetResult_E y).1 ∧ os ++ (unh 0 d).2 = (enc_impl_FleetResult_E y).2 := by
  unfold out_impl_FleetResult_E at h
  split at h
  · cases h; exact ⟨rfl, rfl⟩
  · cases h
def enc_bo (y : Bool) : D RT den := (.bool y)
def out_bo (d : D RT den) : Option (Bool) := match d with | .bool a0_0 => some a0_0 | _ => none
theorem out_bo_enc (d : D RT den) (y : Bool) (h : out_bo d = some y) : d = enc_bo y := by
  unfold out_bo at h
  split at h
  · cases h; rfl
  · cases h
def enc_impl_FleetResult_H (y : S_impl_FleetResult) : D RT den × List (Ob RT den) := ((.agg [(.int .i64 y.Code), (.int .i64 y.Why), (.int .i64 y.Name), (.os 0 y.Out.n), (.os 1 y.Fleet.Agreed.n), (.os 2 y.Fleet.Muxes.n)]), [(.row false .u8 y.Out.n y.Out.f), (.row false .impl_Entry y.Fleet.Agreed.n y.Fleet.Agreed.f), (.row false .impl_Mux y.Fleet.Muxes.n y.Fleet.Muxes.f)])
def out_impl_FleetResult_H (d : D RT den) (os : List (Ob RT den)) : Option (S_impl_FleetResult) := match d, os with | .agg [.int .i64 a0_1, .int .i64 a0_2, .int .i64 a0_3, .rs za0_4 .u8 na0_4 fa0_4, .rs za0_6 .impl_Entry na0_6 fa0_6, .rs za0_7 .impl_Mux na0_7 fa0_7], [] => some (⟨a0_1, a0_2, a0_3, (⟨za0_4, na0_4, fa0_4⟩ : (Sl Int)), (⟨(⟨za0_6, na0_6, fa0_6⟩ : (Sl S_impl_Entry)), (⟨za0_7, na0_7, fa0_7⟩ : (Sl S_impl_Mux_0))⟩ : S_impl_Fleet)⟩ : S_impl_FleetResult) | _, _ => none
theorem out_impl_FleetResult_H_enc (d : D RT den) (os : List (Ob RT den)) (y : S_impl_FleetResult) (h : out_impl_FleetResult_H d os = some y) : (unh 0 d).1 = (enc_impl_FleetResult_H y).1 ∧ os ++ (unh 0 d).2 = (enc_impl_FleetResult_H y).2 := by
  unfold out_impl_FleetResult_H at h
  split at h
  · cases h; exact ⟨rfl, rfl⟩
  · cases h
def enc_impl_Mux_E (y : S_impl_Mux) : D RT den × List (Ob RT den) := ((.agg [(.int .i64 y.Address), (.int .i64 y.Now), (.bool y.Watch.Ready), (.int .i64 y.Watch.Config.Version), (.emp true .impl_Backend), (.emp true .impl_Vip), (.emp true .sl_i64), (.emp true .impl_Held)]), [])
def out_impl_Mux_E (d : D RT den) (os : List (Ob RT den)) : Option (S_impl_Mux) := match d, os with | .agg [.int .i64 a0_1, .int .i64 a0_2, .bool a0_4, .int .i64 a0_6, .emp true .impl_Backend, .emp true .impl_Vip, .emp true .sl_i64, .emp true .impl_Held], [] => some (⟨a0_1, a0_2, (⟨a0_4, (⟨a0_6, (⟨some true, 0, fun _ => dflt .impl_Backend⟩ : (Sl S_impl_Backend)), (⟨some true, 0, fun _ => dflt .impl_Vip⟩ : (Sl S_impl_Vip))⟩ : S_impl_Config)⟩ : S_impl_Watch), (⟨some true, 0, fun _ => dflt .sl_i64⟩ : (Sl (Sl Int))), (⟨some true, 0, fun _ => dflt .impl_Held⟩ : (Sl S_impl_Held))⟩ : S_impl_Mux) | _, _ => none
theorem out_impl_Mux_E_enc (d : D RT den) (os : List (Ob RT den)) (y : S_impl_Mux) (h : out_impl_Mux_E d os = some y) : (unh 0 d).1 = (enc_impl_Mux_E y).1 ∧ os ++ (unh 0 d).2 = (enc_impl_Mux_E y).2 := by
  unfold out_impl_Mux_E at h
  split at h
  · cases h; exact ⟨rfl, rfl⟩
  · cases h
def enc_i64 (y : Int) : D RT den := (.int .i64 y)
def out_i64 (d : D RT den) : Option (Int) := match d with | .int .i64 a0_0 => some a0_0 | _ => none
theorem out_i64_enc (d : D RT den) (y : Int) (h : out_i64 d = some y) : d = enc_i64 y := by
  unfold out_i64 at h
  split at h
  · cases h; rfl
  · cases h
end Go.Proofs.Ytaghkcpgpjbdnaa.Pn
