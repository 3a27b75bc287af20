/- The tables of the program's types for the value machine. Conditions: none. -/
import Derived.Test.YtaghkcpgpjbdnaaVmS
import Derived.Test.YtaghkcpgpjbdnaaVmO
import Derived.Test.YtaghkcpgpjbdnaaProg
import Derived.KernelRfl
namespace Go.Proofs.Ytaghkcpgpjbdnaa.Pc
open Go Go.RowKit Go.Proofs Vm
set_option linter.unusedVariables false
set_option linter.unusedSimpArgs false
set_option maxRecDepth 100000
structure S_impl_Backend where
  Name : Int
  Address : Int
  Weight : Int
  Stage : Int
  Up : Bool
structure S_impl_Vip where
  Address : Int
  Port : Int
  Proto : Int
  Names : (Sl Int)
structure S_impl_Flow where
  From : Int
  To : Int
  Proto : Int
  FromP : Int
  ToP : Int
structure S_impl_Held where
  Flow : S_impl_Flow
  Name : Int
  Seen : Int
structure S_impl_Config where
  Version : Int
  Backends : (Sl S_impl_Backend)
  Vips : (Sl S_impl_Vip)
structure S_impl_Watch where
  Ready : Bool
  Config : S_impl_Config
structure S_impl_Mux where
  Address : Int
  Now : Int
  Watch : S_impl_Watch
  Tables : (Sl (Sl Int))
  Cache : (Sl S_impl_Held)
structure S_impl_MuxResult where
  Code : Int
  Why : Int
  Name : Int
  Out : (Sl Int)
  Mux : S_impl_Mux
inductive RT where
  | i64
  | u8
  | impl_Backend
  | impl_Vip
  | sl_i64
  | impl_Held

def RT.no : RT → Nat
  | .i64 => 0
  | .u8 => 1
  | .impl_Backend => 2
  | .impl_Vip => 3
  | .sl_i64 => 4
  | .impl_Held => 5

instance : DecidableEq RT := fun a b => if h : a.no = b.no then isTrue (by cases a <;> cases b <;> first | rfl | (cases h)) else isFalse (fun e => h (by rw [e]))
def den : RT → Type
  | .i64 => Int
  | .u8 => Int
  | .impl_Backend => S_impl_Backend
  | .impl_Vip => S_impl_Vip
  | .sl_i64 => (Sl Int)
  | .impl_Held => S_impl_Held

def W_i64 (n : Int) : Prop := (Lit.int .i64 n).wf = true
def dflt : (τ : RT) → den τ
  | .i64 => (0 : Int)
  | .u8 => (0 : Int)
  | .impl_Backend => (⟨0, 0, 0, 0, false⟩ : S_impl_Backend)
  | .impl_Vip => (⟨0, 0, 0, ⟨some true, 0, fun _ => 0⟩⟩ : S_impl_Vip)
  | .sl_i64 => (⟨some true, 0, fun _ => 0⟩ : (Sl Int))
  | .impl_Held => (⟨⟨0, 0, 0, 0, 0⟩, 0, 0⟩ : S_impl_Held)

def cellsR : (τ : RT) → den τ → List (D RT den)
  | .i64, (x : Int) => [(.int .i64 x)]
  | .u8, (x : Int) => [(.int .u8 x)]
  | .impl_Backend, (x : S_impl_Backend) => [(.int .i64 x.Name), (.int .i64 x.Address), (.int .i64 x.Weight), (.int .i64 x.Stage), (.bool x.Up)]
  | .impl_Vip, (x : S_impl_Vip) => [(.int .i64 x.Address), (.int .i64 x.Port), (.int .i64 x.Proto), (.rs x.Names.z .i64 x.Names.n x.Names.f)]
  | .sl_i64, (x : (Sl Int)) => [(.rs x.z .i64 x.n x.f)]
  | .impl_Held, (x : S_impl_Held) => [(.int .i64 x.Flow.From), (.int .i64 x.Flow.To), (.int .i64 x.Flow.Proto), (.int .i64 x.Flow.FromP), (.int .i64 x.Flow.ToP), (.int .i64 x.Name), (.int .i64 x.Seen)]

def dec_i64 (cs : List (D RT den)) : Option Int := match cs with | [.int .i64 a0_0] => some a0_0 | _ => none
theorem dec_i64_cells (cs : List (D RT den)) (x : Int) (h : dec_i64 cs = some x) : cellsR .i64 x = cs := by
  unfold dec_i64 at h
  split at h
  · cases h; rfl
  · cases h
def dec_u8 (cs : List (D RT den)) : Option Int := match cs with | [.int .u8 a0_0] => some a0_0 | _ => none
theorem dec_u8_cells (cs : List (D RT den)) (x : Int) (h : dec_u8 cs = some x) : cellsR .u8 x = cs := by
  unfold dec_u8 at h
  split at h
  · cases h; rfl
  · cases h
def dec_impl_Backend (cs : List (D RT den)) : Option S_impl_Backend := match cs with | [.int .i64 a0_1, .int .i64 a0_2, .int .i64 a0_3, .int .i64 a0_4, .bool a0_5] => some (⟨a0_1, a0_2, a0_3, a0_4, a0_5⟩ : S_impl_Backend) | _ => none
theorem dec_impl_Backend_cells (cs : List (D RT den)) (x : S_impl_Backend) (h : dec_impl_Backend cs = some x) : cellsR .impl_Backend x = cs := by
  unfold dec_impl_Backend at h
  split at h
  · cases h; rfl
  · cases h
def dec_impl_Vip (cs : List (D RT den)) : Option S_impl_Vip := match cs with | [.int .i64 a0_1, .int .i64 a0_2, .int .i64 a0_3, .rs za0_4 .i64 na0_4 fa0_4] => some (⟨a0_1, a0_2, a0_3, (⟨za0_4, na0_4, fa0_4⟩ : (Sl Int))⟩ : S_impl_Vip) | _ => none
theorem dec_impl_Vip_cells (cs : List (D RT den)) (x : S_impl_Vip) (h : dec_impl_Vip cs = some x) : cellsR .impl_Vip x = cs := by
  unfold dec_impl_Vip at h
  split at h
  · cases h; rfl
  · cases h
def dec_sl_i64 (cs : List (D RT den)) : Option (Sl Int) := match cs with | [.rs za0_0 .i64 na0_0 fa0_0] => some (⟨za0_0, na0_0, fa0_0⟩ : (Sl Int)) | _ => none
theorem dec_sl_i64_cells (cs : List (D RT den)) (x : (Sl Int)) (h : dec_sl_i64 cs = some x) : cellsR .sl_i64 x = cs := by
  unfold dec_sl_i64 at h
  split at h
  · cases h; rfl
  · cases h
def dec_impl_Held (cs : List (D RT den)) : Option S_impl_Held := match cs with | [.int .i64 a0_2, .int .i64 a0_3, .int .i64 a0_4, .int .i64 a0_5, .int .i64 a0_6, .int .i64 a0_7, .int .i64 a0_8] => some (⟨(⟨a0_2, a0_3, a0_4, a0_5, a0_6⟩ : S_impl_Flow), a0_7, a0_8⟩ : S_impl_Held) | _ => none
theorem dec_impl_Held_cells (cs : List (D RT den)) (x : S_impl_Held) (h : dec_impl_Held cs = some x) : cellsR .impl_Held x = cs := by
  unfold dec_impl_Held at h
  split at h
  · cases h; rfl
  · cases h
def decR : (τ : RT) → List (D RT den) → Option (den τ)
  | .i64, cs => dec_i64 cs
  | .u8, cs => dec_u8 cs
  | .impl_Backend, cs => dec_impl_Backend cs
  | .impl_Vip, cs => dec_impl_Vip cs
  | .sl_i64, cs => dec_sl_i64 cs
  | .impl_Held, cs => dec_impl_Held cs

def sizeR : RT → Nat
  | .i64 => 1
  | .u8 => 1
  | .impl_Backend => 5
  | .impl_Vip => 4
  | .sl_i64 => 1
  | .impl_Held => 7

def sclR : RT → Bool
  | .i64 => true
  | .u8 => true
  | .impl_Backend => true
  | .impl_Vip => false
  | .sl_i64 => false
  | .impl_Held => true

def nilR : RT → Bool
  | .i64 => false
  | .u8 => false
  | .impl_Backend => false
  | .impl_Vip => false
  | .sl_i64 => false
  | .impl_Held => false

def rtl : List (Nat × RT) := [(2, .i64), (5, .u8), (68, .sl_i64), (73, .impl_Held), (88, .impl_Backend), (90, .impl_Vip)]
def zs : List (Nat × List (D RT den)) := [(32, [(.int .i64 0), (.int .i64 0), (.bool false), (.int .i64 0), (.emp true .impl_Backend), (.emp true .impl_Vip), (.emp true .sl_i64), (.emp true .impl_Held)]), (34, [(.int .i64 0), (.int .i64 0), (.int .i64 0), (.emp true .u8), (.int .i64 0), (.int .i64 0), (.bool false), (.int .i64 0), (.emp true .impl_Backend), (.emp true .impl_Vip), (.emp true .sl_i64), (.emp true .impl_Held)])]
def tbl : List (Nat × TI) := [(2, ⟨1, 8, false, none, [], false, none, false, none⟩),
  (3, ⟨1, 8, false, none, [], false, none, false, (some .i64)⟩),
  (4, ⟨1, 1, false, none, [], false, none, true, none⟩),
  (5, ⟨1, 1, false, none, [], false, none, false, (some .u8)⟩),
  (22, ⟨1, 24, false, some 5, [], false, none, false, none⟩),
  (23, ⟨1, 24, false, some 88, [], false, none, false, none⟩),
  (24, ⟨1, 24, false, some 90, [], false, none, false, none⟩),
  (26, ⟨3, 56, true, none, [(0, 2), (1, 23), (2, 24)], false, none, false, none⟩),
  (28, ⟨4, 64, true, none, [(0, 4), (1, 26)], false, none, false, none⟩),
  (29, ⟨1, 24, false, some 68, [], false, none, false, none⟩),
  (30, ⟨1, 24, false, some 73, [], false, none, false, none⟩),
  (32, ⟨8, 128, true, none, [(0, 2), (1, 2), (2, 28), (6, 29), (7, 30)], true, none, false, none⟩),
  (34, ⟨12, 176, true, none, [(0, 2), (1, 2), (2, 2), (3, 22), (4, 32)], true, none, false, none⟩),
  (68, ⟨1, 24, false, some 2, [], false, none, false, none⟩),
  (71, ⟨5, 40, true, none, [(0, 2), (1, 2), (2, 2), (3, 2), (4, 2)], false, none, false, none⟩),
  (73, ⟨7, 56, true, none, [(0, 71), (5, 2), (6, 2)], false, none, false, none⟩),
  (88, ⟨5, 40, true, none, [(0, 2), (1, 2), (2, 2), (3, 2), (4, 4)], false, none, false, none⟩),
  (90, ⟨4, 48, true, none, [(0, 2), (1, 2), (2, 2), (3, 68)], false, none, false, none⟩)]
noncomputable def fnT (f : Nat) : Option Func := match f with
  | 3 => some Try.f3
  | 5 => some Try.f5
  | 6 => some Try.f6
  | 7 => some Try.f7
  | 8 => some Try.f8
  | 9 => some Try.f9
  | 15 => some Try.f15
  | 16 => some Try.f16
  | 17 => some Try.f17
  | 18 => some Try.f18
  | 19 => some Try.f19
  | 20 => some Try.f20
  | 21 => some Try.f21
  | 22 => some Try.f22
  | 23 => some Try.f23
  | 24 => some Try.f24
  | 26 => some Try.f26
  | 31 => some Try.f31
  | 32 => some Try.f32
  | 33 => some Try.f33
  | 34 => some Try.f34
  | 35 => some Try.f35
  | 36 => some Try.f36
  | 37 => some Try.f37
  | 38 => some Try.f38
  | 39 => some Try.f39
  | 46 => some Try.f46
  | 47 => some Try.f47
  | 48 => some Try.f48
  | 49 => some Try.f49
  | 51 => some Try.f51
  | 52 => some Try.f52
  | 54 => some Try.f54
  | 55 => some Try.f55
  | 56 => some Try.f56
  | 57 => some Try.f57
  | 58 => some Try.f58
  | 59 => some Try.f59
  | 60 => some Try.f60
  | 62 => some Try.f62
  | 63 => some Try.f63
  | _ => none
def parT (f : Nat) : List Nat := []
def R : Vm.Rows RT den := ⟨fun t => rtl.lookup t, sizeR, cellsR, decR, (fun a b => decEq a b), dflt, fun t => zs.lookup t, sclR, nilR⟩
noncomputable def E : Env RT den := envOf Try.prog tbl R zs fnT parT
theorem rows_ok : RowsOk R tbl where
  size := by intro τ x; cases τ <;> rfl
  dec := by
    intro τ cs x h
    cases τ
    · exact dec_i64_cells cs x h
    · exact dec_u8_cells cs x h
    · exact dec_impl_Backend_cells cs x h
    · exact dec_impl_Vip_cells cs x h
    · exact dec_sl_i64_cells cs x h
    · exact dec_impl_Held_cells cs x h
  pure := by intro τ x; cases τ <;> rfl
  scl := by intro τ h x; cases τ <;> first | rfl | cases h
  rt := rt_of (by kernel_rfl)
theorem fn_ok : ∀ f g, fnT f = some g → Try.prog.funcs[f]? = some g := by
  intro f g h
  unfold fnT at h
  split at h <;> first | (cases h; kernel_rfl) | cases h
theorem E_ok : Ok E Try.prog := envOf_ok (by kernel_rfl) (by kernel_rfl) (by kernel_rfl) fn_ok rows_ok (by kernel_rfl)
def upd_impl_Backend_0_1 (f : Nat → S_impl_Backend) (j : Nat) (v0 : Int) : Nat → S_impl_Backend := fun i => if i = j then (⟨v0, (f j).Address, (f j).Weight, (f j).Stage, (f j).Up⟩ : S_impl_Backend) else f i
def upd_impl_Backend_1_1 (f : Nat → S_impl_Backend) (j : Nat) (v0 : Int) : Nat → S_impl_Backend := fun i => if i = j then (⟨(f j).Name, v0, (f j).Weight, (f j).Stage, (f j).Up⟩ : S_impl_Backend) else f i
def upd_impl_Backend_2_1 (f : Nat → S_impl_Backend) (j : Nat) (v0 : Int) : Nat → S_impl_Backend := fun i => if i = j then (⟨(f j).Name, (f j).Address, v0, (f j).Stage, (f j).Up⟩ : S_impl_Backend) else f i
def upd_impl_Backend_3_1 (f : Nat → S_impl_Backend) (j : Nat) (v0 : Int) : Nat → S_impl_Backend := fun i => if i = j then (⟨(f j).Name, (f j).Address, (f j).Weight, v0, (f j).Up⟩ : S_impl_Backend) else f i
def upd_impl_Backend_4_1 (f : Nat → S_impl_Backend) (j : Nat) (v0 : Bool) : Nat → S_impl_Backend := fun i => if i = j then (⟨(f j).Name, (f j).Address, (f j).Weight, (f j).Stage, v0⟩ : S_impl_Backend) else f i
def upd_impl_Held_0_1 (f : Nat → S_impl_Held) (j : Nat) (v0 : Int) : Nat → S_impl_Held := fun i => if i = j then (⟨(⟨v0, (f j).Flow.To, (f j).Flow.Proto, (f j).Flow.FromP, (f j).Flow.ToP⟩ : S_impl_Flow), (f j).Name, (f j).Seen⟩ : S_impl_Held) else f i
def upd_impl_Held_1_1 (f : Nat → S_impl_Held) (j : Nat) (v0 : Int) : Nat → S_impl_Held := fun i => if i = j then (⟨(⟨(f j).Flow.From, v0, (f j).Flow.Proto, (f j).Flow.FromP, (f j).Flow.ToP⟩ : S_impl_Flow), (f j).Name, (f j).Seen⟩ : S_impl_Held) else f i
def upd_impl_Held_2_1 (f : Nat → S_impl_Held) (j : Nat) (v0 : Int) : Nat → S_impl_Held := fun i => if i = j then (⟨(⟨(f j).Flow.From, (f j).Flow.To, v0, (f j).Flow.FromP, (f j).Flow.ToP⟩ : S_impl_Flow), (f j).Name, (f j).Seen⟩ : S_impl_Held) else f i
def upd_impl_Held_3_1 (f : Nat → S_impl_Held) (j : Nat) (v0 : Int) : Nat → S_impl_Held := fun i => if i = j then (⟨(⟨(f j).Flow.From, (f j).Flow.To, (f j).Flow.Proto, v0, (f j).Flow.ToP⟩ : S_impl_Flow), (f j).Name, (f j).Seen⟩ : S_impl_Held) else f i
def upd_impl_Held_4_1 (f : Nat → S_impl_Held) (j : Nat) (v0 : Int) : Nat → S_impl_Held := fun i => if i = j then (⟨(⟨(f j).Flow.From, (f j).Flow.To, (f j).Flow.Proto, (f j).Flow.FromP, v0⟩ : S_impl_Flow), (f j).Name, (f j).Seen⟩ : S_impl_Held) else f i
def upd_impl_Held_5_1 (f : Nat → S_impl_Held) (j : Nat) (v0 : Int) : Nat → S_impl_Held := fun i => if i = j then (⟨(f j).Flow, v0, (f j).Seen⟩ : S_impl_Held) else f i
def upd_impl_Held_6_1 (f : Nat → S_impl_Held) (j : Nat) (v0 : Int) : Nat → S_impl_Held := fun i => if i = j then (⟨(f j).Flow, (f j).Name, v0⟩ : S_impl_Held) else f i
def enc_impl_MuxResult_H (y : S_impl_MuxResult) : D RT den × List (Ob RT den) := ((.agg [(.int .i64 y.Code), (.int .i64 y.Why), (.int .i64 y.Name), (.os 0 y.Out.n), (.int .i64 y.Mux.Address), (.int .i64 y.Mux.Now), (.bool y.Mux.Watch.Ready), (.int .i64 y.Mux.Watch.Config.Version), (.os 1 y.Mux.Watch.Config.Backends.n), (.emp true .impl_Vip), (.emp true .sl_i64), (.os 2 y.Mux.Cache.n)]), [(.row false .u8 y.Out.n y.Out.f), (.row false .impl_Backend y.Mux.Watch.Config.Backends.n y.Mux.Watch.Config.Backends.f), (.row false .impl_Held y.Mux.Cache.n y.Mux.Cache.f)])
def out_impl_MuxResult_H (d : D RT den) (os : List (Ob RT den)) : Option (S_impl_MuxResult) := match d, os with | .agg [.int .i64 a0_1, .int .i64 a0_2, .int .i64 a0_3, .rs za0_4 .u8 na0_4 fa0_4, .int .i64 a0_6, .int .i64 a0_7, .bool a0_9, .int .i64 a0_11, .rs za0_12 .impl_Backend na0_12 fa0_12, .emp true .impl_Vip, .emp true .sl_i64, .rs za0_15 .impl_Held na0_15 fa0_15], [] => some (⟨a0_1, a0_2, a0_3, (⟨za0_4, na0_4, fa0_4⟩ : (Sl Int)), (⟨a0_6, a0_7, (⟨a0_9, (⟨a0_11, (⟨za0_12, na0_12, fa0_12⟩ : (Sl S_impl_Backend)), (⟨some true, 0, fun _ => dflt .impl_Vip⟩ : (Sl S_impl_Vip))⟩ : S_impl_Config)⟩ : S_impl_Watch), (⟨some true, 0, fun _ => dflt .sl_i64⟩ : (Sl (Sl Int))), (⟨za0_15, na0_15, fa0_15⟩ : (Sl S_impl_Held))⟩ : S_impl_Mux)⟩ : S_impl_MuxResult) | _, _ => none
theorem out_impl_MuxResult_H_enc (d : D RT den) (os : List (Ob RT den)) (y : S_impl_MuxResult) (h : out_impl_MuxResult_H d os = some y) : (unh 0 d).1 = (enc_impl_MuxResult_H y).1 ∧ os ++ (unh 0 d).2 = (enc_impl_MuxResult_H y).2 := by
  unfold out_impl_MuxResult_H at h
  split at h
  · cases h; exact ⟨rfl, rfl⟩
  · cases h
def enc_bo (y : Bool) : D RT den := (.bool y)
def out_bo (d : D RT den) : Option (Bool) := match d with | .bool a0_0 => some a0_0 | _ => none
theorem out_bo_enc (d : D RT den) (y : Bool) (h : out_bo d = some y) : d = enc_bo y := by
  unfold out_bo at h
  split at h
  · cases h; rfl
  · cases h
def enc_i64 (y : Int) : D RT den := (.int .i64 y)
def out_i64 (d : D RT den) : Option (Int) := match d with | .int .i64 a0_0 => some a0_0 | _ => none
theorem out_i64_enc (d : D RT den) (y : Int) (h : out_i64 d = some y) : d = enc_i64 y := by
  unfold out_i64 at h
  split at h
  · cases h; rfl
  · cases h
end Go.Proofs.Ytaghkcpgpjbdnaa.Pc
