/- The law FnExactMuxText: for all arguments the call returns true, and each argument reads behind the call as it read before. -/
import Derived.Test.YtcmfekgdlaffkaaGreatDoorVmR
import Derived.Test.YtcmfekgdlaffkaaGreatDoorPxPlTextL
import Derived.Test.YtcmfekgdlaffkaaGreatDoorRows
import Derived.WalkKit
import Derived.ProofKit
import Derived.OpenShut
import Derived.ShutString
import Derived.ChangeOld
import Derived.Below
import Derived.SizedLaws
import Derived.Lay
import Derived.LaidOnce
import Derived.LaidLaws
import Derived.SevenTiedAt
import Derived.Lib.LaidU8
import Derived.Lib.LaidTab
import Derived.Lib.ItoaNum
import Derived.MakeChecks
import Derived.Handed
import Derived.Test.YtcmfekgdlaffkaaGreatDoorCards
import Derived.Test.YtcmfekgdlaffkaaGreatDoorTie
namespace Go.Proofs.YtcmfekgdlaffkaaGreatDoor.fnExactMuxText
open Go.ChangeShapes Go.WideShapes Go.ChangeAt Go.RowKit Go.Proofs.YtcmfekgdlaffkaaGreatDoor.Vm Go.Proofs.YtcmfekgdlaffkaaGreatDoor.Px
set_option linter.unusedVariables false
set_option linter.unusedSimpArgs false
theorem own : ownKnob Tryz.prog.godebug = none := by kernel_rfl
theorem laidOut : laidOutB Tryz.prog = true := by kernel_rfl
def cl2 (x : Int) : List (D RT den) := [(.int .i64 x)]
theorem op2 : VOpens E Tryz.prog 2 cl2 W_i64 := VOpens.int Tryz.underlying2 (by kernel_rfl)
def cl4 (x : Bool) : List (D RT den) := [(.bool x)]
theorem op4 : VOpens E Tryz.prog 4 cl4 W_bo := VOpens.bool Tryz.underlying4 (by kernel_rfl)
def cl135 (x : S_impl_Backend) : List (D RT den) := [(.int .i64 x.Name), (.int .i64 x.Address), (.int .i64 x.Weight), (.int .i64 x.Stage), (.bool x.Up)]
theorem op135 : VOpens E Tryz.prog 135 cl135 W_impl_Backend := VOpens.struct (ts := [(0, 2), (1, 2), (2, 2), (3, 2), (4, 4)]) (fun p => ⟨p.1, p.2.1, p.2.2.1, p.2.2.2.1, p.2.2.2.2⟩) (fun x : S_impl_Backend => (x.Name, x.Address, x.Weight, x.Stage, x.Up)) (fun _ => rfl) (fun _ => rfl) (fun _ => by kernel_rfl) Tryz.underlying135 rfl (VFields.cons 1 (by kernel_rfl) (0 : Int) ((0 : Int), ((0 : Int), ((0 : Int), false))) op2 (VFields.cons 1 (by kernel_rfl) (0 : Int) ((0 : Int), ((0 : Int), false)) op2 (VFields.cons 1 (by kernel_rfl) (0 : Int) ((0 : Int), false) op2 (VFields.cons 1 (by kernel_rfl) (0 : Int) false op2 (VFields.last op4 false) (fun _ _ => rfl)) (fun _ _ => rfl)) (fun _ _ => rfl)) (fun _ _ => rfl)) (fun _ h => h)
def cl22 (x : (Sl S_impl_Backend)) : List (D RT den) := [(.rs x.z .impl_Backend x.n x.f)]
theorem op22 : VOpens E Tryz.prog 22 cl22 W_sl_impl_Backend := VOpens.slice (E := E) (τ := RT.impl_Backend) (W := W_impl_Backend) (dflt .impl_Backend) Tryz.underlying22 (by kernel_rfl) op135 (by kernel_rfl) (of_decide_eq_true (by kernel_rfl))
def cl70 (x : (Sl Int)) : List (D RT den) := [(.rs x.z .i64 x.n x.f)]
theorem op70 : VOpens E Tryz.prog 70 cl70 W_sl_i64 := VOpens.slice (E := E) (τ := RT.i64) (W := W_i64) (dflt .i64) Tryz.underlying70 (by kernel_rfl) op2 (by kernel_rfl) (of_decide_eq_true (by kernel_rfl))
def cl125 (x : S_impl_Vip) : List (D RT den) := [(.int .i64 x.Address), (.int .i64 x.Port), (.int .i64 x.Proto), (.rs x.Names.z .i64 x.Names.n x.Names.f)]
theorem op125 : VOpens E Tryz.prog 125 cl125 W_impl_Vip := VOpens.struct (ts := [(0, 2), (1, 2), (2, 2), (3, 70)]) (fun p => ⟨p.1, p.2.1, p.2.2.1, p.2.2.2⟩) (fun x : S_impl_Vip => (x.Address, x.Port, x.Proto, x.Names)) (fun _ => rfl) (fun _ => rfl) (fun _ => by kernel_rfl) Tryz.underlying125 rfl (VFields.cons 1 (by kernel_rfl) (0 : Int) ((0 : Int), ((0 : Int), (⟨none, 0, fun _ => (0 : Int)⟩ : (Sl Int)))) op2 (VFields.cons 1 (by kernel_rfl) (0 : Int) ((0 : Int), (⟨none, 0, fun _ => (0 : Int)⟩ : (Sl Int))) op2 (VFields.cons 1 (by kernel_rfl) (0 : Int) (⟨none, 0, fun _ => (0 : Int)⟩ : (Sl Int)) op2 (VFields.last op70 (⟨none, 0, fun _ => (0 : Int)⟩ : (Sl Int))) (fun _ _ => rfl)) (fun _ _ => rfl)) (fun _ _ => rfl)) (fun _ h => h)
def cl23 (x : (Sl S_impl_Vip)) : List (D RT den) := [(.rs x.z .impl_Vip x.n x.f)]
theorem op23 : VOpens E Tryz.prog 23 cl23 W_sl_impl_Vip := VOpens.slice (E := E) (τ := RT.impl_Vip) (W := W_impl_Vip) (dflt .impl_Vip) Tryz.underlying23 (by kernel_rfl) op125 (by kernel_rfl) (of_decide_eq_true (by kernel_rfl))
def cl25 (x : S_laws_Config) : List (D RT den) := [(.int .i64 x.Version), (.rs x.Backends.z .impl_Backend x.Backends.n x.Backends.f), (.rs x.Vips.z .impl_Vip x.Vips.n x.Vips.f)]
theorem op25 : VOpens E Tryz.prog 25 cl25 W_laws_Config := VOpens.struct (ts := [(0, 2), (1, 22), (2, 23)]) (fun p => ⟨p.1, p.2.1, p.2.2⟩) (fun x : S_laws_Config => (x.Version, x.Backends, x.Vips)) (fun _ => rfl) (fun _ => rfl) (fun _ => by kernel_rfl) Tryz.underlying25 rfl (VFields.cons 1 (by kernel_rfl) (0 : Int) ((⟨none, 0, fun _ => (⟨(0 : Int), (0 : Int), (0 : Int), (0 : Int), false⟩ : S_impl_Backend)⟩ : (Sl S_impl_Backend)), (⟨none, 0, fun _ => (⟨(0 : Int), (0 : Int), (0 : Int), (⟨none, 0, fun _ => (0 : Int)⟩ : (Sl Int))⟩ : S_impl_Vip)⟩ : (Sl S_impl_Vip))) op2 (VFields.cons 1 (by kernel_rfl) (⟨none, 0, fun _ => (⟨(0 : Int), (0 : Int), (0 : Int), (0 : Int), false⟩ : S_impl_Backend)⟩ : (Sl S_impl_Backend)) (⟨none, 0, fun _ => (⟨(0 : Int), (0 : Int), (0 : Int), (⟨none, 0, fun _ => (0 : Int)⟩ : (Sl Int))⟩ : S_impl_Vip)⟩ : (Sl S_impl_Vip)) op22 (VFields.last op23 (⟨none, 0, fun _ => (⟨(0 : Int), (0 : Int), (0 : Int), (⟨none, 0, fun _ => (0 : Int)⟩ : (Sl Int))⟩ : S_impl_Vip)⟩ : (Sl S_impl_Vip))) (fun _ _ => rfl)) (fun _ _ => rfl)) (fun _ h => h)
def cl27 (x : S_laws_Watch) : List (D RT den) := [(.bool x.Ready), (.int .i64 x.Config.Version), (.rs x.Config.Backends.z .impl_Backend x.Config.Backends.n x.Config.Backends.f), (.rs x.Config.Vips.z .impl_Vip x.Config.Vips.n x.Config.Vips.f)]
theorem op27 : VOpens E Tryz.prog 27 cl27 W_laws_Watch := VOpens.struct (ts := [(0, 4), (1, 25)]) (fun p => ⟨p.1, p.2⟩) (fun x : S_laws_Watch => (x.Ready, x.Config)) (fun _ => rfl) (fun _ => rfl) (fun _ => by kernel_rfl) Tryz.underlying27 rfl (VFields.cons 1 (by kernel_rfl) false (⟨(0 : Int), (⟨none, 0, fun _ => (⟨(0 : Int), (0 : Int), (0 : Int), (0 : Int), false⟩ : S_impl_Backend)⟩ : (Sl S_impl_Backend)), (⟨none, 0, fun _ => (⟨(0 : Int), (0 : Int), (0 : Int), (⟨none, 0, fun _ => (0 : Int)⟩ : (Sl Int))⟩ : S_impl_Vip)⟩ : (Sl S_impl_Vip))⟩ : S_laws_Config) op4 (VFields.last op25 (⟨(0 : Int), (⟨none, 0, fun _ => (⟨(0 : Int), (0 : Int), (0 : Int), (0 : Int), false⟩ : S_impl_Backend)⟩ : (Sl S_impl_Backend)), (⟨none, 0, fun _ => (⟨(0 : Int), (0 : Int), (0 : Int), (⟨none, 0, fun _ => (0 : Int)⟩ : (Sl Int))⟩ : S_impl_Vip)⟩ : (Sl S_impl_Vip))⟩ : S_laws_Config)) (fun _ _ => rfl)) (fun _ h => h)
def cl28 (x : (Sl (Sl Int))) : List (D RT den) := [(.rs x.z .sl_i64 x.n x.f)]
theorem op28 : VOpens E Tryz.prog 28 cl28 W_sl_sl_i64 := VOpens.slice (E := E) (τ := RT.sl_i64) (W := W_sl_i64) (dflt .sl_i64) Tryz.underlying28 (by kernel_rfl) op70 (by kernel_rfl) (of_decide_eq_true (by kernel_rfl))
def cl81 (x : S_impl_Flow) : List (D RT den) := [(.int .i64 x.From), (.int .i64 x.To), (.int .i64 x.Proto), (.int .i64 x.FromP), (.int .i64 x.ToP)]
theorem op81 : VOpens E Tryz.prog 81 cl81 W_impl_Flow := VOpens.struct (ts := [(0, 2), (1, 2), (2, 2), (3, 2), (4, 2)]) (fun p => ⟨p.1, p.2.1, p.2.2.1, p.2.2.2.1, p.2.2.2.2⟩) (fun x : S_impl_Flow => (x.From, x.To, x.Proto, x.FromP, x.ToP)) (fun _ => rfl) (fun _ => rfl) (fun _ => by kernel_rfl) Tryz.underlying81 rfl (VFields.cons 1 (by kernel_rfl) (0 : Int) ((0 : Int), ((0 : Int), ((0 : Int), (0 : Int)))) op2 (VFields.cons 1 (by kernel_rfl) (0 : Int) ((0 : Int), ((0 : Int), (0 : Int))) op2 (VFields.cons 1 (by kernel_rfl) (0 : Int) ((0 : Int), (0 : Int)) op2 (VFields.cons 1 (by kernel_rfl) (0 : Int) (0 : Int) op2 (VFields.last op2 (0 : Int)) (fun _ _ => rfl)) (fun _ _ => rfl)) (fun _ _ => rfl)) (fun _ _ => rfl)) (fun _ h => h)
def cl83 (x : S_laws_Held) : List (D RT den) := [(.int .i64 x.Flow.From), (.int .i64 x.Flow.To), (.int .i64 x.Flow.Proto), (.int .i64 x.Flow.FromP), (.int .i64 x.Flow.ToP), (.int .i64 x.Name), (.int .i64 x.Seen)]
theorem op83 : VOpens E Tryz.prog 83 cl83 W_laws_Held := VOpens.struct (ts := [(0, 81), (5, 2), (6, 2)]) (fun p => ⟨p.1, p.2.1, p.2.2⟩) (fun x : S_laws_Held => (x.Flow, x.Name, x.Seen)) (fun _ => rfl) (fun _ => rfl) (fun _ => by kernel_rfl) Tryz.underlying83 rfl (VFields.cons 5 (by kernel_rfl) (⟨(0 : Int), (0 : Int), (0 : Int), (0 : Int), (0 : Int)⟩ : S_impl_Flow) ((0 : Int), (0 : Int)) op81 (VFields.cons 1 (by kernel_rfl) (0 : Int) (0 : Int) op2 (VFields.last op2 (0 : Int)) (fun _ _ => rfl)) (fun _ _ => rfl)) (fun _ h => h)
def cl29 (x : (Sl S_laws_Held)) : List (D RT den) := [(.rs x.z .laws_Held x.n x.f)]
theorem op29 : VOpens E Tryz.prog 29 cl29 W_sl_laws_Held := VOpens.slice (E := E) (τ := RT.laws_Held) (W := W_laws_Held) (dflt .laws_Held) Tryz.underlying29 (by kernel_rfl) op83 (by kernel_rfl) (of_decide_eq_true (by kernel_rfl))
def cl31 (x : S_laws_Mux) : List (D RT den) := [(.int .i64 x.Address), (.int .i64 x.Now), (.bool x.Watch.Ready), (.int .i64 x.Watch.Config.Version), (.rs x.Watch.Config.Backends.z .impl_Backend x.Watch.Config.Backends.n x.Watch.Config.Backends.f), (.rs x.Watch.Config.Vips.z .impl_Vip x.Watch.Config.Vips.n x.Watch.Config.Vips.f), (.rs x.Tables.z .sl_i64 x.Tables.n x.Tables.f), (.rs x.Cache.z .laws_Held x.Cache.n x.Cache.f)]
theorem op31 : VOpens E Tryz.prog 31 cl31 W_laws_Mux := VOpens.struct (ts := [(0, 2), (1, 2), (2, 27), (6, 28), (7, 29)]) (fun p => ⟨p.1, p.2.1, p.2.2.1, p.2.2.2.1, p.2.2.2.2⟩) (fun x : S_laws_Mux => (x.Address, x.Now, x.Watch, x.Tables, x.Cache)) (fun _ => rfl) (fun _ => rfl) (fun _ => by kernel_rfl) Tryz.underlying31 rfl (VFields.cons 1 (by kernel_rfl) (0 : Int) ((0 : Int), ((⟨false, (⟨(0 : Int), (⟨none, 0, fun _ => (⟨(0 : Int), (0 : Int), (0 : Int), (0 : Int), false⟩ : S_impl_Backend)⟩ : (Sl S_impl_Backend)), (⟨none, 0, fun _ => (⟨(0 : Int), (0 : Int), (0 : Int), (⟨none, 0, fun _ => (0 : Int)⟩ : (Sl Int))⟩ : S_impl_Vip)⟩ : (Sl S_impl_Vip))⟩ : S_laws_Config)⟩ : S_laws_Watch), ((⟨none, 0, fun _ => (⟨none, 0, fun _ => (0 : Int)⟩ : (Sl Int))⟩ : (Sl (Sl Int))), (⟨none, 0, fun _ => (⟨(⟨(0 : Int), (0 : Int), (0 : Int), (0 : Int), (0 : Int)⟩ : S_impl_Flow), (0 : Int), (0 : Int)⟩ : S_laws_Held)⟩ : (Sl S_laws_Held))))) op2 (VFields.cons 1 (by kernel_rfl) (0 : Int) ((⟨false, (⟨(0 : Int), (⟨none, 0, fun _ => (⟨(0 : Int), (0 : Int), (0 : Int), (0 : Int), false⟩ : S_impl_Backend)⟩ : (Sl S_impl_Backend)), (⟨none, 0, fun _ => (⟨(0 : Int), (0 : Int), (0 : Int), (⟨none, 0, fun _ => (0 : Int)⟩ : (Sl Int))⟩ : S_impl_Vip)⟩ : (Sl S_impl_Vip))⟩ : S_laws_Config)⟩ : S_laws_Watch), ((⟨none, 0, fun _ => (⟨none, 0, fun _ => (0 : Int)⟩ : (Sl Int))⟩ : (Sl (Sl Int))), (⟨none, 0, fun _ => (⟨(⟨(0 : Int), (0 : Int), (0 : Int), (0 : Int), (0 : Int)⟩ : S_impl_Flow), (0 : Int), (0 : Int)⟩ : S_laws_Held)⟩ : (Sl S_laws_Held)))) op2 (VFields.cons 4 (by kernel_rfl) (⟨false, (⟨(0 : Int), (⟨none, 0, fun _ => (⟨(0 : Int), (0 : Int), (0 : Int), (0 : Int), false⟩ : S_impl_Backend)⟩ : (Sl S_impl_Backend)), (⟨none, 0, fun _ => (⟨(0 : Int), (0 : Int), (0 : Int), (⟨none, 0, fun _ => (0 : Int)⟩ : (Sl Int))⟩ : S_impl_Vip)⟩ : (Sl S_impl_Vip))⟩ : S_laws_Config)⟩ : S_laws_Watch) ((⟨none, 0, fun _ => (⟨none, 0, fun _ => (0 : Int)⟩ : (Sl Int))⟩ : (Sl (Sl Int))), (⟨none, 0, fun _ => (⟨(⟨(0 : Int), (0 : Int), (0 : Int), (0 : Int), (0 : Int)⟩ : S_impl_Flow), (0 : Int), (0 : Int)⟩ : S_laws_Held)⟩ : (Sl S_laws_Held))) op27 (VFields.cons 1 (by kernel_rfl) (⟨none, 0, fun _ => (⟨none, 0, fun _ => (0 : Int)⟩ : (Sl Int))⟩ : (Sl (Sl Int))) (⟨none, 0, fun _ => (⟨(⟨(0 : Int), (0 : Int), (0 : Int), (0 : Int), (0 : Int)⟩ : S_impl_Flow), (0 : Int), (0 : Int)⟩ : S_laws_Held)⟩ : (Sl S_laws_Held)) op28 (VFields.last op29 (⟨none, 0, fun _ => (⟨(⟨(0 : Int), (0 : Int), (0 : Int), (0 : Int), (0 : Int)⟩ : S_impl_Flow), (0 : Int), (0 : Int)⟩ : S_laws_Held)⟩ : (Sl S_laws_Held))) (fun _ _ => rfl)) (fun _ _ => rfl)) (fun _ _ => rfl)) (fun _ _ => rfl)) (fun _ h => h)
theorem tb_of {W : World} (h : Lib.VarReads Tryz.prog W "internal/strconv.uint64pow10" Rows.laid_internal_strconv_uint64pow10) : Tb E (live W) W := by
  obtain ⟨g', t', cs, fuel, p, hg', ht', hvar, hd⟩ := h
  obtain rfl := Option.some.inj ((show Tryz.prog.globalNamed "internal/strconv.uint64pow10" = some 0 by kernel_rfl).symm.trans hg')
  obtain rfl := Option.some.inj ((show (Tryz.prog.globals[0]?).map (·.type) = some 165 by kernel_rfl).symm.trans ht')
  rw [show (Rows.laid_internal_strconv_uint64pow10 : DataW Unit) = Lib.tabData .u64 Lib.pow10Tab by kernel_rfl] at hd
  have hcs := Lib.cells_of_tab Tryz.underlying165 Tryz.underlying157 (by kernel_rfl) (by kernel_rfl) hd
  unfold World.var? at hvar
  rw [hg', Option.bind_some] at hvar
  have key : ∃ e x, W.heap[0]? = some (.cells cs e x) := by
    split at hvar
    · rename_i c e x hw
      obtain rfl := Option.some.inj hvar
      exact ⟨e, x, hw⟩
    · cases hvar
  obtain ⟨e, x, hw⟩ := key
  intro g cs' hg
  cases g with
  | zero =>
    have hg : some ((Lib.pow10Tab.map fun z => Value.int .u64 z).toArray) = some cs' := hg
    obtain rfl := Option.some.inj hg
    rw [← hcs]
    exact ⟨fun o => (Array.getElem?_eq_some_iff.1 hw).1, e, x, hw⟩
  | succ g =>
    have hg : (none : Option (Array Value)) = some cs' := hg
    cases hg
set_option maxRecDepth 100000 in
theorem lifted (os : Os) (started : os.Started) (H : Type) (enc : TypeId × Value → H) :
    ReturnsInHanded {} Tryz.checked os 3 .any (fun w args => (Rows.fnExactMuxTextSpec.pre enc Tryz.prog Tryz.f3 [] false w args ∧ laidMetH Tryz.prog Rows.fnExactMuxTextRow.laid w) ∧ sizedMet enc Tryz.prog Tryz.f3 (OpenSpec.ofChange Rows.fnExactMuxTextSpec) false w args) (Rows.fnExactMuxTextSpec.post enc Tryz.prog Tryz.f3 false true false false) := by
  refine returnsInHanded_of_change_and (C := Tryz.checked) (X := fun w _ => laidMetH Tryz.prog Rows.fnExactMuxTextRow.laid w) (fun _ _ _ hh h => h.of_heap hh) own started (by kernel_rfl) Tryz.func3
    (ChangeSpec.witness_shaped (enc := enc) (C := Tryz.checked) (os := os) (X := fun w _ => laidMetH Tryz.prog Rows.fnExactMuxTextRow.laid w) false (World.laidAll Tryz.prog os Rows.fnExactMuxTextRow.laid) #[.agg #[.int .i64 0, .int .i64 0, .bool false, .int .i64 0, .slice none 0 0, .slice none 0 0, .slice none 0 0, .slice none 0 0]] 8 (World.laidAll_os _ _ _)
      (World.shaped_of_ZipB (by kernel_rfl) (by kernel_rfl)) (by kernel_rfl) (by kernel_rfl) (by kernel_rfl)
      (by rw [MakeChecks.laidMetH_plain _ _ _ (by kernel_rfl)]; exact laidMet_laidAll _ (by kernel_rfl) (by kernel_rfl))) ?_
  intro W base args ds gs before hval0 hW _ _ hL _
  have hval : ∀ (j : Nat) t v, Tryz.f3.params[j]? = some t → args[j]? = some v → Value.okWide Tryz.prog W .any base t v := hval0
  have hW' := hW
  obtain ⟨p, q, hA0, hV, rfl, hfz, hnd⟩ := hW
  have hA : DataW.TrodAll enc Tryz.prog W 0 (fun _ => true) true Tryz.f3.params.toList args.toList ds p := hA0
  rw [Tryz.params3] at hA hval
  obtain ⟨v0, vs0, d0, ds0, p0, q0, hargs, rfl, rfl, h0, r0⟩ := trodAll_cons hA
  obtain ⟨rfl, rfl, rfl⟩ := trodAll_nil r0
  obtain rfl : args = #[v0] := by cases args; simp_all
  obtain ⟨rfl, rfl⟩ := trodVars_none hV
  have k0 := h0
  have lt0 : ∀ x ∈ p0, x.block < W.heap.size := by obtain ⟨m, hm⟩ := k0; exact DataW.trod_lt m _ _ _ hm
  obtain ⟨y0, t0, w0⟩ := vopen_agg op31 Tryz.underlying31 (hval 0 31 v0 rfl rfl) h0
  rw [MakeChecks.laidMetH_plain _ _ _ (by kernel_rfl)] at hL
  have hT : Tb E (live W) W := tb_of (Lib.laidMet.reads hL (List.Mem.tail _ (List.Mem.tail _ (List.Mem.head _))))
  have hg := goodv_d1 plainFuel y0 true (plain_FnExactMuxText y0 w0)
  refine (hg.calls (live W) W #[_] ⟨fun b o h => h, hT⟩ rfl ?_).mono fun e W' ⟨v, F', he, bel, _, _, _, hv⟩ => ?_
  · intro i x hx
    match i, hx with
    | 0, hx => cases hx; exact t0
    | i + 1, hx => cases hx
  · have hb := VRep.toBool (b := true) hv
    subst he
    subst hb
    exact ⟨_, rfl, _, _, _, [], _, [], hW', trodAll_mk1 (shut_bool Tryz.underlying4 _), (trodAll_cons_mk (Below.trod laidOut (by kernel_rfl) (of_decide_eq_true (by kernel_rfl)) k0 bel lt0) trodAll_mk0), rfl, bel.frame _, fun h => by cases h⟩
theorem over : Rows.fnExactMuxTextRow.holds Tryz.pinned (OpenSpec.ofChange Rows.fnExactMuxTextSpec) :=
  OpenClaim.holds_of_wide 3 Tryz.f3 rfl rfl rfl rfl rfl rfl rfl ⟨rfl, rfl, rfl, rfl, rfl⟩ rfl rfl rfl rfl rfl (by kernel_rfl) Tryz.func3 (by kernel_rfl)
    (of_decide_eq_true (by kernel_rfl)) (by unfold Func.isWrapper; first | (rw [if_pos (by decide +kernel)]; kernel_rfl) | (rw [if_neg (by decide +kernel)]; exact ⟨rfl, rfl⟩))
    (fun os started H enc _ => lifted os started H enc)
theorem card_holds : Claim7.holds Tryz.pinned (.plain (OpenSpec.ofChange Rows.fnExactMuxTextSpec)) Rows.fnExactMuxTextCard :=
  Claim7.holds_tied_plain_at .later [] [.data, .data, .data] true (true, "36985c481c12822dc66ea12b473f402214e206d194cc331c4a41644809bf2a8d") false over (fun _ h => by cases h) (by kernel_rfl) (fun _ h => by cases h) fnExactMuxText_row_tie rfl ⟨rfl, rfl⟩ (by kernel_rfl) rfl
    (fun f fn hf hfn => by
      obtain rfl : f = 3 := Option.some.inj ((show Tryz.prog.funcNamed Rows.fnExactMuxTextRow.func = some 3 by kernel_rfl).symm.trans hf) |>.symm
      obtain rfl : fn = Tryz.f3 := (Option.some.inj (Tryz.func3.symm.trans hfn)).symm
      exact ⟨by kernel_rfl, fun j t ht => by
        rw [Tryz.params3] at ht
        have hm : t ∈ [31] := by simpa using Array.mem_of_getElem? ht
        have hall : ([31].all fun u => !Tryz.prog.wantsStandIn u) = true := by kernel_rfl
        exact (show Tryz.prog.wantsStandIn t = false by simpa using List.all_eq_true.1 hall t hm)⟩)
    (by kernel_rfl)
theorem proved : Rows.FnExactMuxTextCardSaid := card_holds
#print axioms proved
end Go.Proofs.YtcmfekgdlaffkaaGreatDoor.fnExactMuxText
namespace Go.Proofs.YtcmfekgdlaffkaaGreatDoor
/-- The card, under a short name, for the claim. -/
theorem fnExactMuxText_holds : Rows.FnExactMuxTextCardSaid := fnExactMuxText.proved
end Go.Proofs.YtcmfekgdlaffkaaGreatDoor
