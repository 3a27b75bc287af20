/- The law FnExactFullUpdate: for all arguments the call returns true, and each argument reads behind the call as it read before. -/
import Derived.Test.YtmnbmponjhglcaaVmR
import Derived.Test.YtmnbmponjhglcaaPdPlFull
import Derived.Test.YtmnbmponjhglcaaRows
import Derived.WalkKit
import Derived.ProofKit
import Derived.OpenShut
import Derived.ShutString
import Derived.ChangeOld
import Derived.Below
import Derived.SizedLaws
namespace Go.Proofs.Ytmnbmponjhglcaa.fnExactFullUpdate
open Go.ChangeShapes Go.WideShapes Go.ChangeAt Go.RowKit Go.Proofs.Ytmnbmponjhglcaa.Vm Go.Proofs.Ytmnbmponjhglcaa.Pd
set_option linter.unusedVariables false
set_option linter.unusedSimpArgs false
theorem own : ownKnob Try.prog.godebug = none := by kernel_rfl
theorem laidOut : laidOutB Try.prog = true := by kernel_rfl
def cl2 (x : Int) : List (D RT den) := [(.int .i64 x)]
theorem op2 : VOpens E Try.prog 2 cl2 W_i64 := VOpens.int Try.underlying2 (by kernel_rfl)
def cl4 (x : Bool) : List (D RT den) := [(.bool x)]
theorem op4 : VOpens E Try.prog 4 cl4 W_bo := VOpens.bool Try.underlying4 (by kernel_rfl)
def cl203 (x : S_impl_Backend) : List (D RT den) := [(.int .i64 x.Name), (.int .i64 x.Address), (.int .i64 x.Weight), (.int .i64 x.Stage), (.bool x.Up)]
theorem op203 : VOpens E Try.prog 203 cl203 W_impl_Backend := VOpens.struct (ts := [(0, 2), (1, 2), (2, 2), (3, 2), (4, 4)]) (fun p => ⟨p.1, p.2.1, p.2.2.1, p.2.2.2.1, p.2.2.2.2⟩) (fun x : S_impl_Backend => (x.Name, x.Address, x.Weight, x.Stage, x.Up)) (fun _ => rfl) (fun _ => rfl) (fun _ => by kernel_rfl) Try.underlying203 rfl (VFields.cons 1 (by kernel_rfl) (0 : Int) ((0 : Int), ((0 : Int), ((0 : Int), false))) op2 (VFields.cons 1 (by kernel_rfl) (0 : Int) ((0 : Int), ((0 : Int), false)) op2 (VFields.cons 1 (by kernel_rfl) (0 : Int) ((0 : Int), false) op2 (VFields.cons 1 (by kernel_rfl) (0 : Int) false op2 (VFields.last op4 false) (fun _ _ => rfl)) (fun _ _ => rfl)) (fun _ _ => rfl)) (fun _ _ => rfl)) (fun _ h => h)
def cl45 (x : (Sl S_impl_Backend)) : List (D RT den) := [(.rs x.z .impl_Backend x.n x.f)]
theorem op45 : VOpens E Try.prog 45 cl45 W_sl_impl_Backend := VOpens.slice (E := E) (τ := RT.impl_Backend) (W := W_impl_Backend) (dflt .impl_Backend) Try.underlying45 (by kernel_rfl) op203 (by kernel_rfl) (of_decide_eq_true (by kernel_rfl))
def cl144 (x : (Sl Int)) : List (D RT den) := [(.rs x.z .i64 x.n x.f)]
theorem op144 : VOpens E Try.prog 144 cl144 W_sl_i64 := VOpens.slice (E := E) (τ := RT.i64) (W := W_i64) (dflt .i64) Try.underlying144 (by kernel_rfl) op2 (by kernel_rfl) (of_decide_eq_true (by kernel_rfl))
def cl199 (x : S_impl_Vip) : List (D RT den) := [(.int .i64 x.Address), (.int .i64 x.Port), (.int .i64 x.Proto), (.rs x.Names.z .i64 x.Names.n x.Names.f)]
theorem op199 : VOpens E Try.prog 199 cl199 W_impl_Vip := VOpens.struct (ts := [(0, 2), (1, 2), (2, 2), (3, 144)]) (fun p => ⟨p.1, p.2.1, p.2.2.1, p.2.2.2⟩) (fun x : S_impl_Vip => (x.Address, x.Port, x.Proto, x.Names)) (fun _ => rfl) (fun _ => rfl) (fun _ => by kernel_rfl) Try.underlying199 rfl (VFields.cons 1 (by kernel_rfl) (0 : Int) ((0 : Int), ((0 : Int), (⟨none, 0, fun _ => (0 : Int)⟩ : (Sl Int)))) op2 (VFields.cons 1 (by kernel_rfl) (0 : Int) ((0 : Int), (⟨none, 0, fun _ => (0 : Int)⟩ : (Sl Int))) op2 (VFields.cons 1 (by kernel_rfl) (0 : Int) (⟨none, 0, fun _ => (0 : Int)⟩ : (Sl Int)) op2 (VFields.last op144 (⟨none, 0, fun _ => (0 : Int)⟩ : (Sl Int))) (fun _ _ => rfl)) (fun _ _ => rfl)) (fun _ _ => rfl)) (fun _ h => h)
def cl46 (x : (Sl S_impl_Vip)) : List (D RT den) := [(.rs x.z .impl_Vip x.n x.f)]
theorem op46 : VOpens E Try.prog 46 cl46 W_sl_impl_Vip := VOpens.slice (E := E) (τ := RT.impl_Vip) (W := W_impl_Vip) (dflt .impl_Vip) Try.underlying46 (by kernel_rfl) op199 (by kernel_rfl) (of_decide_eq_true (by kernel_rfl))
def cl48 (x : S_laws_Config) : List (D RT den) := [(.int .i64 x.Version), (.rs x.Backends.z .impl_Backend x.Backends.n x.Backends.f), (.rs x.Vips.z .impl_Vip x.Vips.n x.Vips.f)]
theorem op48 : VOpens E Try.prog 48 cl48 W_laws_Config := VOpens.struct (ts := [(0, 2), (1, 45), (2, 46)]) (fun p => ⟨p.1, p.2.1, p.2.2⟩) (fun x : S_laws_Config => (x.Version, x.Backends, x.Vips)) (fun _ => rfl) (fun _ => rfl) (fun _ => by kernel_rfl) Try.underlying48 rfl (VFields.cons 1 (by kernel_rfl) (0 : Int) ((⟨none, 0, fun _ => (⟨(0 : Int), (0 : Int), (0 : Int), (0 : Int), false⟩ : S_impl_Backend)⟩ : (Sl S_impl_Backend)), (⟨none, 0, fun _ => (⟨(0 : Int), (0 : Int), (0 : Int), (⟨none, 0, fun _ => (0 : Int)⟩ : (Sl Int))⟩ : S_impl_Vip)⟩ : (Sl S_impl_Vip))) op2 (VFields.cons 1 (by kernel_rfl) (⟨none, 0, fun _ => (⟨(0 : Int), (0 : Int), (0 : Int), (0 : Int), false⟩ : S_impl_Backend)⟩ : (Sl S_impl_Backend)) (⟨none, 0, fun _ => (⟨(0 : Int), (0 : Int), (0 : Int), (⟨none, 0, fun _ => (0 : Int)⟩ : (Sl Int))⟩ : S_impl_Vip)⟩ : (Sl S_impl_Vip)) op45 (VFields.last op46 (⟨none, 0, fun _ => (⟨(0 : Int), (0 : Int), (0 : Int), (⟨none, 0, fun _ => (0 : Int)⟩ : (Sl Int))⟩ : S_impl_Vip)⟩ : (Sl S_impl_Vip))) (fun _ _ => rfl)) (fun _ _ => rfl)) (fun _ h => h)
set_option maxRecDepth 100000 in
theorem lifted (os : Os) (started : os.Started) (H : Type) (enc : TypeId × Value → H) :
    ReturnsInHanded {} Try.checked os 5 .any (Rows.fnExactFullUpdateSpec.pre6 enc Try.prog Try.f5 Rows.fnExactFullUpdateRow.domain false) (Rows.fnExactFullUpdateSpec.post enc Try.prog Try.f5 false true false false) := by
  refine returnsInHanded_of_change_sized (C := Try.checked) own started (by kernel_rfl) Try.func5
    (ChangeSpec.witness6 (enc := enc) (C := Try.checked) false ⟨#[], #[.agg #[.int .i64 0, .slice none 0 0, .slice none 0 0]], []⟩ 8 (by kernel_rfl) (by kernel_rfl) (by kernel_rfl) (by kernel_rfl)) ?_
  intro W base args ds gs before hval0 hW hcnd hsz0 _
  have hval : ∀ (j : Nat) t v, Try.f5.params[j]? = some t → args[j]? = some v → Value.okWide Try.prog W .any base t v := hval0
  have hW' := hW
  obtain ⟨p, q, hA0, hV, rfl, hfz, hnd⟩ := hW
  have hA : DataW.TrodAll enc Try.prog W 0 (fun _ => true) true Try.f5.params.toList args.toList ds p := hA0
  rw [Try.params5] at hA hval
  obtain ⟨v0, vs0, d0, ds0, p0, q0, hargs, rfl, rfl, h0, r0⟩ := trodAll_cons hA
  obtain ⟨rfl, rfl, rfl⟩ := trodAll_nil r0
  obtain rfl : args = #[v0] := by cases args; simp_all
  obtain ⟨rfl, rfl⟩ := trodVars_none hV
  have k0 := h0
  have lt0 : ∀ x ∈ p0, x.block < W.heap.size := by obtain ⟨m, hm⟩ := k0; exact DataW.trod_lt m _ _ _ hm
  obtain ⟨y0, t0, w0⟩ := vopen_agg op48 Try.underlying48 (hval 0 48 v0 rfl rfl) h0
  have hg := goodv_b31 plainFuel y0 true (plain_FnExactFullUpdate y0 w0)
  refine (hg.calls (live W) W #[_] (fun b o h => h) rfl ?_).mono fun e W' ⟨v, F', he, bel, _, _, _, hv⟩ => ?_
  · intro i x hx
    match i, hx with
    | 0, hx => cases hx; exact t0
    | i + 1, hx => cases hx
  · have hb := VRep.toBool (b := true) hv
    subst he
    subst hb
    exact ⟨_, rfl, _, _, _, [], _, [], hW', trodAll_mk1 (shut_bool Try.underlying4 _), (trodAll_cons_mk (Below.trod laidOut (by kernel_rfl) (of_decide_eq_true (by kernel_rfl)) k0 bel lt0) trodAll_mk0), rfl, bel.frame _, fun h => by cases h⟩
theorem over : Rows.fnExactFullUpdateRow.holds Try.pinned (OpenSpec.ofChange Rows.fnExactFullUpdateSpec) :=
  OpenClaim.holds_of_wide 5 Try.f5 rfl rfl rfl rfl rfl rfl rfl ⟨rfl, rfl, rfl, rfl, rfl⟩ rfl rfl rfl rfl rfl (by kernel_rfl) Try.func5 (by kernel_rfl)
    (of_decide_eq_true (by kernel_rfl)) (by unfold Func.isWrapper; first | (rw [if_pos (by decide +kernel)]; kernel_rfl) | (rw [if_neg (by decide +kernel)]; exact ⟨rfl, rfl⟩))
    (fun os started H enc _ => lifted os started H enc)
theorem proved : Rows.FnExactFullUpdateSaid := over
#print axioms proved
end Go.Proofs.Ytmnbmponjhglcaa.fnExactFullUpdate
namespace Go.Proofs.Ytmnbmponjhglcaa
/-- The row, under a short name, for the claim. -/
theorem fnExactFullUpdate_holds : Rows.FnExactFullUpdateSaid := fnExactFullUpdate.proved
end Go.Proofs.Ytmnbmponjhglcaa
