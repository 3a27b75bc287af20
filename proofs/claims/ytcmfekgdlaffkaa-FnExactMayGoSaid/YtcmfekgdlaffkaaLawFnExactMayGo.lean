/- The law FnExactMayGo: for all arguments the call returns true, and each argument reads behind the call as it read before. -/
import Derived.Test.YtcmfekgdlaffkaaVmR
import Derived.Test.YtcmfekgdlaffkaaPmPlMayL
import Derived.Test.YtcmfekgdlaffkaaRows
import Derived.WalkKit
import Derived.ProofKit
import Derived.OpenShut
import Derived.ShutString
import Derived.ChangeOld
import Derived.Below
import Derived.SizedLaws
namespace Go.Proofs.Ytcmfekgdlaffkaa.fnExactMayGo
open Go.ChangeShapes Go.WideShapes Go.ChangeAt Go.RowKit Go.Proofs.Ytcmfekgdlaffkaa.Vm Go.Proofs.Ytcmfekgdlaffkaa.Pm
set_option linter.unusedVariables false
set_option linter.unusedSimpArgs false
theorem own : ownKnob Try.prog.godebug = none := by kernel_rfl
theorem laidOut : laidOutB Try.prog = true := by kernel_rfl
def cl2 (x : Int) : List (D RT den) := [(.int .i64 x)]
theorem op2 : VOpens E Try.prog 2 cl2 W_i64 := VOpens.int Try.underlying2 (by kernel_rfl)
def cl4 (x : Bool) : List (D RT den) := [(.bool x)]
theorem op4 : VOpens E Try.prog 4 cl4 W_bo := VOpens.bool Try.underlying4 (by kernel_rfl)
def cl130 (x : S_impl_Backend) : List (D RT den) := [(.int .i64 x.Name), (.int .i64 x.Address), (.int .i64 x.Weight), (.int .i64 x.Stage), (.bool x.Up)]
theorem op130 : VOpens E Try.prog 130 cl130 W_impl_Backend := VOpens.struct (ts := [(0, 2), (1, 2), (2, 2), (3, 2), (4, 4)]) (fun p => ⟨p.1, p.2.1, p.2.2.1, p.2.2.2.1, p.2.2.2.2⟩) (fun x : S_impl_Backend => (x.Name, x.Address, x.Weight, x.Stage, x.Up)) (fun _ => rfl) (fun _ => rfl) (fun _ => by kernel_rfl) Try.underlying130 rfl (VFields.cons 1 (by kernel_rfl) (0 : Int) ((0 : Int), ((0 : Int), ((0 : Int), false))) op2 (VFields.cons 1 (by kernel_rfl) (0 : Int) ((0 : Int), ((0 : Int), false)) op2 (VFields.cons 1 (by kernel_rfl) (0 : Int) ((0 : Int), false) op2 (VFields.cons 1 (by kernel_rfl) (0 : Int) false op2 (VFields.last op4 false) (fun _ _ => rfl)) (fun _ _ => rfl)) (fun _ _ => rfl)) (fun _ _ => rfl)) (fun _ h => h)
def cl48 (x : (Sl S_impl_Backend)) : List (D RT den) := [(.rs x.z .impl_Backend x.n x.f)]
theorem op48 : VOpens E Try.prog 48 cl48 W_sl_impl_Backend := VOpens.slice (E := E) (τ := RT.impl_Backend) (W := W_impl_Backend) (dflt .impl_Backend) Try.underlying48 (by kernel_rfl) op130 (by kernel_rfl) (of_decide_eq_true (by kernel_rfl))
def cl62 (x : (Sl Int)) : List (D RT den) := [(.rs x.z .i64 x.n x.f)]
theorem op62 : VOpens E Try.prog 62 cl62 W_sl_i64 := VOpens.slice (E := E) (τ := RT.i64) (W := W_i64) (dflt .i64) Try.underlying62 (by kernel_rfl) op2 (by kernel_rfl) (of_decide_eq_true (by kernel_rfl))
def cl128 (x : S_impl_Vip) : List (D RT den) := [(.int .i64 x.Address), (.int .i64 x.Port), (.int .i64 x.Proto), (.rs x.Names.z .i64 x.Names.n x.Names.f)]
theorem op128 : VOpens E Try.prog 128 cl128 W_impl_Vip := VOpens.struct (ts := [(0, 2), (1, 2), (2, 2), (3, 62)]) (fun p => ⟨p.1, p.2.1, p.2.2.1, p.2.2.2⟩) (fun x : S_impl_Vip => (x.Address, x.Port, x.Proto, x.Names)) (fun _ => rfl) (fun _ => rfl) (fun _ => by kernel_rfl) Try.underlying128 rfl (VFields.cons 1 (by kernel_rfl) (0 : Int) ((0 : Int), ((0 : Int), (⟨none, 0, fun _ => (0 : Int)⟩ : (Sl Int)))) op2 (VFields.cons 1 (by kernel_rfl) (0 : Int) ((0 : Int), (⟨none, 0, fun _ => (0 : Int)⟩ : (Sl Int))) op2 (VFields.cons 1 (by kernel_rfl) (0 : Int) (⟨none, 0, fun _ => (0 : Int)⟩ : (Sl Int)) op2 (VFields.last op62 (⟨none, 0, fun _ => (0 : Int)⟩ : (Sl Int))) (fun _ _ => rfl)) (fun _ _ => rfl)) (fun _ _ => rfl)) (fun _ h => h)
def cl49 (x : (Sl S_impl_Vip)) : List (D RT den) := [(.rs x.z .impl_Vip x.n x.f)]
theorem op49 : VOpens E Try.prog 49 cl49 W_sl_impl_Vip := VOpens.slice (E := E) (τ := RT.impl_Vip) (W := W_impl_Vip) (dflt .impl_Vip) Try.underlying49 (by kernel_rfl) op128 (by kernel_rfl) (of_decide_eq_true (by kernel_rfl))
def cl51 (x : S_laws_Config) : List (D RT den) := [(.int .i64 x.Version), (.rs x.Backends.z .impl_Backend x.Backends.n x.Backends.f), (.rs x.Vips.z .impl_Vip x.Vips.n x.Vips.f)]
theorem op51 : VOpens E Try.prog 51 cl51 W_laws_Config := VOpens.struct (ts := [(0, 2), (1, 48), (2, 49)]) (fun p => ⟨p.1, p.2.1, p.2.2⟩) (fun x : S_laws_Config => (x.Version, x.Backends, x.Vips)) (fun _ => rfl) (fun _ => rfl) (fun _ => by kernel_rfl) Try.underlying51 rfl (VFields.cons 1 (by kernel_rfl) (0 : Int) ((⟨none, 0, fun _ => (⟨(0 : Int), (0 : Int), (0 : Int), (0 : Int), false⟩ : S_impl_Backend)⟩ : (Sl S_impl_Backend)), (⟨none, 0, fun _ => (⟨(0 : Int), (0 : Int), (0 : Int), (⟨none, 0, fun _ => (0 : Int)⟩ : (Sl Int))⟩ : S_impl_Vip)⟩ : (Sl S_impl_Vip))) op2 (VFields.cons 1 (by kernel_rfl) (⟨none, 0, fun _ => (⟨(0 : Int), (0 : Int), (0 : Int), (0 : Int), false⟩ : S_impl_Backend)⟩ : (Sl S_impl_Backend)) (⟨none, 0, fun _ => (⟨(0 : Int), (0 : Int), (0 : Int), (⟨none, 0, fun _ => (0 : Int)⟩ : (Sl Int))⟩ : S_impl_Vip)⟩ : (Sl S_impl_Vip)) op48 (VFields.last op49 (⟨none, 0, fun _ => (⟨(0 : Int), (0 : Int), (0 : Int), (⟨none, 0, fun _ => (0 : Int)⟩ : (Sl Int))⟩ : S_impl_Vip)⟩ : (Sl S_impl_Vip))) (fun _ _ => rfl)) (fun _ _ => rfl)) (fun _ h => h)
def cl5 (x : Int) : List (D RT den) := [(.int .u8 x)]
theorem op5 : VOpens E Try.prog 5 cl5 W_u8 := VOpens.int Try.underlying5 (by kernel_rfl)
def cl22 (x : (Sl Int)) : List (D RT den) := [(.rs x.z .u8 x.n x.f)]
theorem op22 : VOpens E Try.prog 22 cl22 W_sl_u8 := VOpens.slice (E := E) (τ := RT.u8) (W := W_u8) (dflt .u8) Try.underlying22 (by kernel_rfl) op5 (by kernel_rfl) (of_decide_eq_true (by kernel_rfl))
set_option maxRecDepth 100000 in
theorem lifted (os : Os) (started : os.Started) (H : Type) (enc : TypeId × Value → H) :
    ReturnsInHanded {} Try.checked os 5 .any (Rows.fnExactMayGoSpec.pre6 enc Try.prog Try.f5 Rows.fnExactMayGoRow.domain false) (Rows.fnExactMayGoSpec.post enc Try.prog Try.f5 false true false false) := by
  refine returnsInHanded_of_change_sized (C := Try.checked) own started (by kernel_rfl) Try.func5
    (ChangeSpec.witness6 (enc := enc) (C := Try.checked) false ⟨#[], #[.agg #[.int .i64 0, .slice none 0 0, .slice none 0 0], .int .i64 0, .slice none 0 0, .slice none 0 0], []⟩ 8 (by kernel_rfl) (by kernel_rfl) (by kernel_rfl) (by kernel_rfl)) ?_
  intro W base args ds gs before hval0 hW hcnd hsz0 _
  have hval : ∀ (j : Nat) t v, Try.f5.params[j]? = some t → args[j]? = some v → Value.okWide Try.prog W .any base t v := hval0
  have hW' := hW
  obtain ⟨p, q, hA0, hV, rfl, hfz, hnd⟩ := hW
  have hA : DataW.TrodAll enc Try.prog W 0 (fun _ => true) true Try.f5.params.toList args.toList ds p := hA0
  rw [Try.params5] at hA hval
  obtain ⟨v0, vs0, d0, ds0, p0, q0, hargs, rfl, rfl, h0, r0⟩ := trodAll_cons hA
  obtain ⟨v1, vs1, d1, ds1, p1, q1, rfl, rfl, rfl, h1, r1⟩ := trodAll_cons r0
  obtain ⟨v2, vs2, d2, ds2, p2, q2, rfl, rfl, rfl, h2, r2⟩ := trodAll_cons r1
  obtain ⟨v3, vs3, d3, ds3, p3, q3, rfl, rfl, rfl, h3, r3⟩ := trodAll_cons r2
  obtain ⟨rfl, rfl, rfl⟩ := trodAll_nil r3
  obtain rfl : args = #[v0, v1, v2, v3] := by cases args; simp_all
  obtain ⟨rfl, rfl⟩ := trodVars_none hV
  have k0 := h0
  have lt0 : ∀ x ∈ p0, x.block < W.heap.size := by obtain ⟨m, hm⟩ := k0; exact DataW.trod_lt m _ _ _ hm
  obtain ⟨y0, t0, w0⟩ := vopen_agg op51 Try.underlying51 (hval 0 51 v0 rfl rfl) h0
  obtain ⟨y1, rfl, rfl, rfl, w1⟩ := open_int Try.underlying2 (hval 1 2 v1 rfl rfl) h1
  have t1 : VRep E (live W) W noBet (.int .i64 y1) _ := .int .i64 y1
  have k2 := h2
  have lt2 : ∀ x ∈ p2, x.block < W.heap.size := by obtain ⟨m, hm⟩ := k2; exact DataW.trod_lt m _ _ _ hm
  obtain ⟨y2, t2, w2⟩ := vopen_row op22 Try.underlying22 (hval 2 22 v2 rfl rfl) h2
  have k3 := h3
  have lt3 : ∀ x ∈ p3, x.block < W.heap.size := by obtain ⟨m, hm⟩ := k3; exact DataW.trod_lt m _ _ _ hm
  obtain ⟨y3, t3, w3⟩ := vopen_row op22 Try.underlying22 (hval 3 22 v3 rfl rfl) h3
  have hg := goodv_c0 plainFuel y0 y1 y2 y3 true (plain_FnExactMayGo y0 y1 y2 y3 w0 w1 w2 w3)
  refine (hg.calls (live W) W #[_, _, _, _] (fun b o h => h) rfl ?_).mono fun e W' ⟨v, F', he, bel, _, _, _, hv⟩ => ?_
  · intro i x hx
    match i, hx with
    | 0, hx => cases hx; exact t0
    | 1, hx => cases hx; exact t1
    | 2, hx => cases hx; exact t2
    | 3, hx => cases hx; exact t3
    | i + 4, hx => cases hx
  · have hb := VRep.toBool (b := true) hv
    subst he
    subst hb
    exact ⟨_, rfl, _, _, _, [], _, [], hW', trodAll_mk1 (shut_bool Try.underlying4 _), (trodAll_cons_mk (Below.trod laidOut (by kernel_rfl) (of_decide_eq_true (by kernel_rfl)) k0 bel lt0) (trodAll_cons_mk (shut_int Try.underlying2 w1) (trodAll_cons_mk (Below.trod laidOut (by kernel_rfl) (of_decide_eq_true (by kernel_rfl)) k2 bel lt2) (trodAll_cons_mk (Below.trod laidOut (by kernel_rfl) (of_decide_eq_true (by kernel_rfl)) k3 bel lt3) trodAll_mk0)))), rfl, bel.frame _, fun h => by cases h⟩
theorem over : Rows.fnExactMayGoRow.holds Try.pinned (OpenSpec.ofChange Rows.fnExactMayGoSpec) :=
  OpenClaim.holds_of_wide 5 Try.f5 rfl rfl rfl rfl rfl rfl rfl ⟨rfl, rfl, rfl, rfl, rfl⟩ rfl rfl rfl rfl rfl (by kernel_rfl) Try.func5 (by kernel_rfl)
    (of_decide_eq_true (by kernel_rfl)) (by unfold Func.isWrapper; first | (rw [if_pos (by decide +kernel)]; kernel_rfl) | (rw [if_neg (by decide +kernel)]; exact ⟨rfl, rfl⟩))
    (fun os started H enc _ => lifted os started H enc)
theorem proved : Rows.FnExactMayGoSaid := over
#print axioms proved
end Go.Proofs.Ytcmfekgdlaffkaa.fnExactMayGo
namespace Go.Proofs.Ytcmfekgdlaffkaa
/-- The row, under a short name, for the claim. -/
theorem fnExactMayGo_holds : Rows.FnExactMayGoSaid := fnExactMayGo.proved
end Go.Proofs.Ytcmfekgdlaffkaa
