/- The law FnExactSameMachines: for all arguments the call returns true, and each argument reads behind the call as it read before. -/
import Derived.Test.YtnocoglmchnggaaVmR
import Derived.Test.YtnocoglmchnggaaPcPlMach
import Derived.Test.YtnocoglmchnggaaRows
import Derived.WalkKit
import Derived.ProofKit
import Derived.OpenShut
import Derived.ShutString
import Derived.ChangeOld
import Derived.Below
import Derived.SizedLaws
namespace Go.Proofs.Ytnocoglmchnggaa.fnExactSameMachines
open Go.ChangeShapes Go.WideShapes Go.ChangeAt Go.RowKit Go.Proofs.Ytnocoglmchnggaa.Vm Go.Proofs.Ytnocoglmchnggaa.Pc
set_option linter.unusedVariables false
set_option linter.unusedSimpArgs false
theorem own : ownKnob Try.prog.godebug = none := by kernel_rfl
theorem laidOut : laidOutB Try.prog = true := by kernel_rfl
def cl2 (x : Int) : List (D RT den) := [(.int .i64 x)]
theorem op2 : VOpens E Try.prog 2 cl2 W_i64 := VOpens.int Try.underlying2 (by kernel_rfl)
def cl4 (x : Bool) : List (D RT den) := [(.bool x)]
theorem op4 : VOpens E Try.prog 4 cl4 W_bo := VOpens.bool Try.underlying4 (by kernel_rfl)
def cl136 (x : S_impl_Backend) : List (D RT den) := [(.int .i64 x.Name), (.int .i64 x.Address), (.int .i64 x.Weight), (.int .i64 x.Stage), (.bool x.Up)]
theorem op136 : VOpens E Try.prog 136 cl136 W_impl_Backend := VOpens.struct (ts := [(0, 2), (1, 2), (2, 2), (3, 2), (4, 4)]) (fun p => ⟨p.1, p.2.1, p.2.2.1, p.2.2.2.1, p.2.2.2.2⟩) (fun x : S_impl_Backend => (x.Name, x.Address, x.Weight, x.Stage, x.Up)) (fun _ => rfl) (fun _ => rfl) (fun _ => by kernel_rfl) Try.underlying136 rfl (VFields.cons 1 (by kernel_rfl) (0 : Int) ((0 : Int), ((0 : Int), ((0 : Int), false))) op2 (VFields.cons 1 (by kernel_rfl) (0 : Int) ((0 : Int), ((0 : Int), false)) op2 (VFields.cons 1 (by kernel_rfl) (0 : Int) ((0 : Int), false) op2 (VFields.cons 1 (by kernel_rfl) (0 : Int) false op2 (VFields.last op4 false) (fun _ _ => rfl)) (fun _ _ => rfl)) (fun _ _ => rfl)) (fun _ _ => rfl)) (fun _ h => h)
def cl51 (x : (Sl S_impl_Backend)) : List (D RT den) := [(.rs x.z .impl_Backend x.n x.f)]
theorem op51 : VOpens E Try.prog 51 cl51 W_sl_impl_Backend := VOpens.slice (E := E) (τ := RT.impl_Backend) (W := W_impl_Backend) (dflt .impl_Backend) Try.underlying51 (by kernel_rfl) op136 (by kernel_rfl) (of_decide_eq_true (by kernel_rfl))
def cl115 (x : (Sl Int)) : List (D RT den) := [(.rs x.z .i64 x.n x.f)]
theorem op115 : VOpens E Try.prog 115 cl115 W_sl_i64 := VOpens.slice (E := E) (τ := RT.i64) (W := W_i64) (dflt .i64) Try.underlying115 (by kernel_rfl) op2 (by kernel_rfl) (of_decide_eq_true (by kernel_rfl))
def cl134 (x : S_impl_Vip) : List (D RT den) := [(.int .i64 x.Address), (.int .i64 x.Port), (.int .i64 x.Proto), (.rs x.Names.z .i64 x.Names.n x.Names.f)]
theorem op134 : VOpens E Try.prog 134 cl134 W_impl_Vip := VOpens.struct (ts := [(0, 2), (1, 2), (2, 2), (3, 115)]) (fun p => ⟨p.1, p.2.1, p.2.2.1, p.2.2.2⟩) (fun x : S_impl_Vip => (x.Address, x.Port, x.Proto, x.Names)) (fun _ => rfl) (fun _ => rfl) (fun _ => by kernel_rfl) Try.underlying134 rfl (VFields.cons 1 (by kernel_rfl) (0 : Int) ((0 : Int), ((0 : Int), (⟨none, 0, fun _ => (0 : Int)⟩ : (Sl Int)))) op2 (VFields.cons 1 (by kernel_rfl) (0 : Int) ((0 : Int), (⟨none, 0, fun _ => (0 : Int)⟩ : (Sl Int))) op2 (VFields.cons 1 (by kernel_rfl) (0 : Int) (⟨none, 0, fun _ => (0 : Int)⟩ : (Sl Int)) op2 (VFields.last op115 (⟨none, 0, fun _ => (0 : Int)⟩ : (Sl Int))) (fun _ _ => rfl)) (fun _ _ => rfl)) (fun _ _ => rfl)) (fun _ h => h)
def cl52 (x : (Sl S_impl_Vip)) : List (D RT den) := [(.rs x.z .impl_Vip x.n x.f)]
theorem op52 : VOpens E Try.prog 52 cl52 W_sl_impl_Vip := VOpens.slice (E := E) (τ := RT.impl_Vip) (W := W_impl_Vip) (dflt .impl_Vip) Try.underlying52 (by kernel_rfl) op134 (by kernel_rfl) (of_decide_eq_true (by kernel_rfl))
def cl54 (x : S_laws_Config) : List (D RT den) := [(.int .i64 x.Version), (.rs x.Backends.z .impl_Backend x.Backends.n x.Backends.f), (.rs x.Vips.z .impl_Vip x.Vips.n x.Vips.f)]
theorem op54 : VOpens E Try.prog 54 cl54 W_laws_Config := VOpens.struct (ts := [(0, 2), (1, 51), (2, 52)]) (fun p => ⟨p.1, p.2.1, p.2.2⟩) (fun x : S_laws_Config => (x.Version, x.Backends, x.Vips)) (fun _ => rfl) (fun _ => rfl) (fun _ => by kernel_rfl) Try.underlying54 rfl (VFields.cons 1 (by kernel_rfl) (0 : Int) ((⟨none, 0, fun _ => (⟨(0 : Int), (0 : Int), (0 : Int), (0 : Int), false⟩ : S_impl_Backend)⟩ : (Sl S_impl_Backend)), (⟨none, 0, fun _ => (⟨(0 : Int), (0 : Int), (0 : Int), (⟨none, 0, fun _ => (0 : Int)⟩ : (Sl Int))⟩ : S_impl_Vip)⟩ : (Sl S_impl_Vip))) op2 (VFields.cons 1 (by kernel_rfl) (⟨none, 0, fun _ => (⟨(0 : Int), (0 : Int), (0 : Int), (0 : Int), false⟩ : S_impl_Backend)⟩ : (Sl S_impl_Backend)) (⟨none, 0, fun _ => (⟨(0 : Int), (0 : Int), (0 : Int), (⟨none, 0, fun _ => (0 : Int)⟩ : (Sl Int))⟩ : S_impl_Vip)⟩ : (Sl S_impl_Vip)) op51 (VFields.last op52 (⟨none, 0, fun _ => (⟨(0 : Int), (0 : Int), (0 : Int), (⟨none, 0, fun _ => (0 : Int)⟩ : (Sl Int))⟩ : S_impl_Vip)⟩ : (Sl S_impl_Vip))) (fun _ _ => rfl)) (fun _ _ => rfl)) (fun _ h => h)
def cl122 (x : S_impl_Session) : List (D RT den) := [(.int .i64 x.Client), (.int .i64 x.Seq), (.int .i64 x.Code)]
theorem op122 : VOpens E Try.prog 122 cl122 W_impl_Session := VOpens.struct (ts := [(0, 2), (1, 2), (2, 2)]) (fun p => ⟨p.1, p.2.1, p.2.2⟩) (fun x : S_impl_Session => (x.Client, x.Seq, x.Code)) (fun _ => rfl) (fun _ => rfl) (fun _ => by kernel_rfl) Try.underlying122 rfl (VFields.cons 1 (by kernel_rfl) (0 : Int) ((0 : Int), (0 : Int)) op2 (VFields.cons 1 (by kernel_rfl) (0 : Int) (0 : Int) op2 (VFields.last op2 (0 : Int)) (fun _ _ => rfl)) (fun _ _ => rfl)) (fun _ h => h)
def cl55 (x : (Sl S_impl_Session)) : List (D RT den) := [(.rs x.z .impl_Session x.n x.f)]
theorem op55 : VOpens E Try.prog 55 cl55 W_sl_impl_Session := VOpens.slice (E := E) (τ := RT.impl_Session) (W := W_impl_Session) (dflt .impl_Session) Try.underlying55 (by kernel_rfl) op122 (by kernel_rfl) (of_decide_eq_true (by kernel_rfl))
def cl57 (x : S_laws_Machine) : List (D RT den) := [(.int .i64 x.Config.Version), (.rs x.Config.Backends.z .impl_Backend x.Config.Backends.n x.Config.Backends.f), (.rs x.Config.Vips.z .impl_Vip x.Config.Vips.n x.Config.Vips.f), (.rs x.Sessions.z .impl_Session x.Sessions.n x.Sessions.f)]
theorem op57 : VOpens E Try.prog 57 cl57 W_laws_Machine := VOpens.struct (ts := [(0, 54), (3, 55)]) (fun p => ⟨p.1, p.2⟩) (fun x : S_laws_Machine => (x.Config, x.Sessions)) (fun _ => rfl) (fun _ => rfl) (fun _ => by kernel_rfl) Try.underlying57 rfl (VFields.cons 3 (by kernel_rfl) (⟨(0 : Int), (⟨none, 0, fun _ => (⟨(0 : Int), (0 : Int), (0 : Int), (0 : Int), false⟩ : S_impl_Backend)⟩ : (Sl S_impl_Backend)), (⟨none, 0, fun _ => (⟨(0 : Int), (0 : Int), (0 : Int), (⟨none, 0, fun _ => (0 : Int)⟩ : (Sl Int))⟩ : S_impl_Vip)⟩ : (Sl S_impl_Vip))⟩ : S_laws_Config) (⟨none, 0, fun _ => (⟨(0 : Int), (0 : Int), (0 : Int)⟩ : S_impl_Session)⟩ : (Sl S_impl_Session)) op54 (VFields.last op55 (⟨none, 0, fun _ => (⟨(0 : Int), (0 : Int), (0 : Int)⟩ : S_impl_Session)⟩ : (Sl S_impl_Session))) (fun _ _ => rfl)) (fun _ h => h)
set_option maxRecDepth 100000 in
theorem lifted (os : Os) (started : os.Started) (H : Type) (enc : TypeId × Value → H) :
    ReturnsInHanded {} Try.checked os 7 .any (Rows.fnExactSameMachinesSpec.pre6 enc Try.prog Try.f7 Rows.fnExactSameMachinesRow.domain false) (Rows.fnExactSameMachinesSpec.post enc Try.prog Try.f7 false true false false) := by
  refine returnsInHanded_of_change_sized (C := Try.checked) own started (by kernel_rfl) Try.func7
    (ChangeSpec.witness6 (enc := enc) (C := Try.checked) false ⟨#[], #[.agg #[.int .i64 0, .slice none 0 0, .slice none 0 0, .slice none 0 0], .agg #[.int .i64 0, .slice none 0 0, .slice none 0 0, .slice none 0 0]], []⟩ 8 (by kernel_rfl) (by kernel_rfl) (by kernel_rfl) (by kernel_rfl)) ?_
  intro W base args ds gs before hval0 hW hcnd hsz0 _
  have hval : ∀ (j : Nat) t v, Try.f7.params[j]? = some t → args[j]? = some v → Value.okWide Try.prog W .any base t v := hval0
  have hW' := hW
  obtain ⟨p, q, hA0, hV, rfl, hfz, hnd⟩ := hW
  have hA : DataW.TrodAll enc Try.prog W 0 (fun _ => true) true Try.f7.params.toList args.toList ds p := hA0
  rw [Try.params7] at hA hval
  obtain ⟨v0, vs0, d0, ds0, p0, q0, hargs, rfl, rfl, h0, r0⟩ := trodAll_cons hA
  obtain ⟨v1, vs1, d1, ds1, p1, q1, rfl, rfl, rfl, h1, r1⟩ := trodAll_cons r0
  obtain ⟨rfl, rfl, rfl⟩ := trodAll_nil r1
  obtain rfl : args = #[v0, v1] := by cases args; simp_all
  obtain ⟨rfl, rfl⟩ := trodVars_none hV
  have k0 := h0
  have lt0 : ∀ x ∈ p0, x.block < W.heap.size := by obtain ⟨m, hm⟩ := k0; exact DataW.trod_lt m _ _ _ hm
  obtain ⟨y0, t0, w0⟩ := vopen_agg op57 Try.underlying57 (hval 0 57 v0 rfl rfl) h0
  have k1 := h1
  have lt1 : ∀ x ∈ p1, x.block < W.heap.size := by obtain ⟨m, hm⟩ := k1; exact DataW.trod_lt m _ _ _ hm
  obtain ⟨y1, t1, w1⟩ := vopen_agg op57 Try.underlying57 (hval 1 57 v1 rfl rfl) h1
  have hg := goodv_laws_FnExactSameMachines plainFuel y0 y1 true (plain_FnExactSameMachines y0 y1 w0 w1)
  refine (hg.calls (live W) W #[_, _] (fun b o h => h) rfl ?_).mono fun e W' ⟨v, F', he, bel, _, _, _, hv⟩ => ?_
  · intro i x hx
    match i, hx with
    | 0, hx => cases hx; exact t0
    | 1, hx => cases hx; exact t1
    | i + 2, hx => cases hx
  · have hb := VRep.toBool (b := true) hv
    subst he
    subst hb
    exact ⟨_, rfl, _, _, _, [], _, [], hW', trodAll_mk1 (shut_bool Try.underlying4 _), (trodAll_cons_mk (Below.trod laidOut (by kernel_rfl) (of_decide_eq_true (by kernel_rfl)) k0 bel lt0) (trodAll_cons_mk (Below.trod laidOut (by kernel_rfl) (of_decide_eq_true (by kernel_rfl)) k1 bel lt1) trodAll_mk0)), rfl, bel.frame _, fun h => by cases h⟩
theorem over : Rows.fnExactSameMachinesRow.holds Try.pinned (OpenSpec.ofChange Rows.fnExactSameMachinesSpec) :=
  OpenClaim.holds_of_wide 7 Try.f7 rfl rfl rfl rfl rfl rfl rfl ⟨rfl, rfl, rfl, rfl, rfl⟩ rfl rfl rfl rfl rfl (by kernel_rfl) Try.func7 (by kernel_rfl)
    (of_decide_eq_true (by kernel_rfl)) (by unfold Func.isWrapper; first | (rw [if_pos (by decide +kernel)]; kernel_rfl) | (rw [if_neg (by decide +kernel)]; exact ⟨rfl, rfl⟩))
    (fun os started H enc _ => lifted os started H enc)
theorem proved : Rows.FnExactSameMachinesSaid := over
#print axioms proved
end Go.Proofs.Ytnocoglmchnggaa.fnExactSameMachines
namespace Go.Proofs.Ytnocoglmchnggaa
/-- The row, under a short name, for the claim. -/
theorem fnExactSameMachines_holds : Rows.FnExactSameMachinesSaid := fnExactSameMachines.proved
end Go.Proofs.Ytnocoglmchnggaa
