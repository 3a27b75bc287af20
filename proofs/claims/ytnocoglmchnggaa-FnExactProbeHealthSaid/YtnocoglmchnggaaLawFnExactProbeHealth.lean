/- The law FnExactProbeHealth: for all arguments the call returns true, and each argument reads behind the call as it read before. -/
import Derived.Test.YtnocoglmchnggaaVmR
import Derived.Test.YtnocoglmchnggaaPcPlMach
import Derived.Test.YtnocoglmchnggaaRows
import Derived.WalkKit
import Derived.ProofKit
import Derived.OpenShut
import Derived.ShutString
import Derived.ChangeOld
import Derived.Below
import Derived.SizedLaws
namespace Go.Proofs.Ytnocoglmchnggaa.fnExactProbeHealth
open Go.ChangeShapes Go.WideShapes Go.ChangeAt Go.RowKit Go.Proofs.Ytnocoglmchnggaa.Vm Go.Proofs.Ytnocoglmchnggaa.Pc
set_option linter.unusedVariables false
set_option linter.unusedSimpArgs false
theorem own : ownKnob Try.prog.godebug = none := by kernel_rfl
theorem laidOut : laidOutB Try.prog = true := by kernel_rfl
def cl2 (x : Int) : List (D RT den) := [(.int .i64 x)]
theorem op2 : VOpens E Try.prog 2 cl2 W_i64 := VOpens.int Try.underlying2 (by kernel_rfl)
def cl4 (x : Bool) : List (D RT den) := [(.bool x)]
theorem op4 : VOpens E Try.prog 4 cl4 W_bo := VOpens.bool Try.underlying4 (by kernel_rfl)
def cl23 (x : S_impl_Health) : List (D RT den) := [(.int .i64 x.Name), (.bool x.Up), (.int .i64 x.Run)]
theorem op23 : VOpens E Try.prog 23 cl23 W_impl_Health := VOpens.struct (ts := [(0, 2), (1, 4), (2, 2)]) (fun p => ⟨p.1, p.2.1, p.2.2⟩) (fun x : S_impl_Health => (x.Name, x.Up, x.Run)) (fun _ => rfl) (fun _ => rfl) (fun _ => by kernel_rfl) Try.underlying23 rfl (VFields.cons 1 (by kernel_rfl) (0 : Int) (false, (0 : Int)) op2 (VFields.cons 1 (by kernel_rfl) false (0 : Int) op4 (VFields.last op2 (0 : Int)) (fun _ _ => rfl)) (fun _ _ => rfl)) (fun _ h => h)
set_option maxRecDepth 100000 in
theorem lifted (os : Os) (started : os.Started) (H : Type) (enc : TypeId × Value → H) :
    ReturnsInHanded {} Try.checked os 3 .any (Rows.fnExactProbeHealthSpec.pre6 enc Try.prog Try.f3 Rows.fnExactProbeHealthRow.domain false) (Rows.fnExactProbeHealthSpec.post enc Try.prog Try.f3 false true false false) := by
  refine returnsInHanded_of_change_sized (C := Try.checked) own started (by kernel_rfl) Try.func3
    (ChangeSpec.witness6 (enc := enc) (C := Try.checked) false ⟨#[], #[.agg #[.int .i64 0, .bool false, .int .i64 0], .bool false], []⟩ 8 (by kernel_rfl) (by kernel_rfl) (by kernel_rfl) (by kernel_rfl)) ?_
  intro W base args ds gs before hval0 hW hcnd hsz0 _
  have hval : ∀ (j : Nat) t v, Try.f3.params[j]? = some t → args[j]? = some v → Value.okWide Try.prog W .any base t v := hval0
  have hW' := hW
  obtain ⟨p, q, hA0, hV, rfl, hfz, hnd⟩ := hW
  have hA : DataW.TrodAll enc Try.prog W 0 (fun _ => true) true Try.f3.params.toList args.toList ds p := hA0
  rw [Try.params3] at hA hval
  obtain ⟨v0, vs0, d0, ds0, p0, q0, hargs, rfl, rfl, h0, r0⟩ := trodAll_cons hA
  obtain ⟨v1, vs1, d1, ds1, p1, q1, rfl, rfl, rfl, h1, r1⟩ := trodAll_cons r0
  obtain ⟨rfl, rfl, rfl⟩ := trodAll_nil r1
  obtain rfl : args = #[v0, v1] := by cases args; simp_all
  obtain ⟨rfl, rfl⟩ := trodVars_none hV
  have k0 := h0
  have lt0 : ∀ x ∈ p0, x.block < W.heap.size := by obtain ⟨m, hm⟩ := k0; exact DataW.trod_lt m _ _ _ hm
  obtain ⟨y0, t0, w0⟩ := vopen_agg op23 Try.underlying23 (hval 0 23 v0 rfl rfl) h0
  obtain ⟨y1, rfl, rfl, rfl⟩ := open_bool Try.underlying4 (hval 1 4 v1 rfl rfl) h1
  have t1 : VRep E (live W) W noBet (.bool y1) _ := .bool y1
  have hg := goodv_laws_FnExactProbeHealth plainFuel y0 y1 true (plain_FnExactProbeHealth y0 y1 w0)
  refine (hg.calls (live W) W #[_, _] (fun b o h => h) rfl ?_).mono fun e W' ⟨v, F', he, bel, _, _, _, hv⟩ => ?_
  · intro i x hx
    match i, hx with
    | 0, hx => cases hx; exact t0
    | 1, hx => cases hx; exact t1
    | i + 2, hx => cases hx
  · have hb := VRep.toBool (b := true) hv
    subst he
    subst hb
    exact ⟨_, rfl, _, _, _, [], _, [], hW', trodAll_mk1 (shut_bool Try.underlying4 _), (trodAll_cons_mk (Below.trod laidOut (by kernel_rfl) (of_decide_eq_true (by kernel_rfl)) k0 bel lt0) (trodAll_cons_mk (shut_bool Try.underlying4 _) trodAll_mk0)), rfl, bel.frame _, fun h => by cases h⟩
theorem over : Rows.fnExactProbeHealthRow.holds Try.pinned (OpenSpec.ofChange Rows.fnExactProbeHealthSpec) :=
  OpenClaim.holds_of_wide 3 Try.f3 rfl rfl rfl rfl rfl rfl rfl ⟨rfl, rfl, rfl, rfl, rfl⟩ rfl rfl rfl rfl rfl (by kernel_rfl) Try.func3 (by kernel_rfl)
    (of_decide_eq_true (by kernel_rfl)) (by unfold Func.isWrapper; first | (rw [if_pos (by decide +kernel)]; kernel_rfl) | (rw [if_neg (by decide +kernel)]; exact ⟨rfl, rfl⟩))
    (fun os started H enc _ => lifted os started H enc)
theorem proved : Rows.FnExactProbeHealthSaid := over
#print axioms proved
end Go.Proofs.Ytnocoglmchnggaa.fnExactProbeHealth
namespace Go.Proofs.Ytnocoglmchnggaa
/-- The row, under a short name, for the claim. -/
theorem fnExactProbeHealth_holds : Rows.FnExactProbeHealthSaid := fnExactProbeHealth.proved
end Go.Proofs.Ytnocoglmchnggaa
