/- The law FnExactVerdictFor: for all arguments the call returns true, and each argument reads behind the call as it read before. -/
import Derived.Test.YtnocoglmchnggaaVmR
import Derived.Test.YtnocoglmchnggaaPcPlMach
import Derived.Test.YtnocoglmchnggaaRows
import Derived.WalkKit
import Derived.ProofKit
import Derived.OpenShut
import Derived.ShutString
import Derived.ChangeOld
import Derived.Below
import Derived.SizedLaws
namespace Go.Proofs.Ytnocoglmchnggaa.fnExactVerdictFor
open Go.ChangeShapes Go.WideShapes Go.ChangeAt Go.RowKit Go.Proofs.Ytnocoglmchnggaa.Vm Go.Proofs.Ytnocoglmchnggaa.Pc
set_option linter.unusedVariables false
set_option linter.unusedSimpArgs false
theorem own : ownKnob Try.prog.godebug = none := by kernel_rfl
theorem laidOut : laidOutB Try.prog = true := by kernel_rfl
def cl2 (x : Int) : List (D RT den) := [(.int .i64 x)]
theorem op2 : VOpens E Try.prog 2 cl2 W_i64 := VOpens.int Try.underlying2 (by kernel_rfl)
def cl4 (x : Bool) : List (D RT den) := [(.bool x)]
theorem op4 : VOpens E Try.prog 4 cl4 W_bo := VOpens.bool Try.underlying4 (by kernel_rfl)
def cl92 (x : S_impl_Verdict) : List (D RT den) := [(.int .i64 x.Prober), (.int .i64 x.Name), (.bool x.Up), (.int .i64 x.Epoch)]
theorem op92 : VOpens E Try.prog 92 cl92 W_impl_Verdict := VOpens.struct (ts := [(0, 2), (1, 2), (2, 4), (3, 2)]) (fun p => ⟨p.1, p.2.1, p.2.2.1, p.2.2.2⟩) (fun x : S_impl_Verdict => (x.Prober, x.Name, x.Up, x.Epoch)) (fun _ => rfl) (fun _ => rfl) (fun _ => by kernel_rfl) Try.underlying92 rfl (VFields.cons 1 (by kernel_rfl) (0 : Int) ((0 : Int), (false, (0 : Int))) op2 (VFields.cons 1 (by kernel_rfl) (0 : Int) (false, (0 : Int)) op2 (VFields.cons 1 (by kernel_rfl) false (0 : Int) op4 (VFields.last op2 (0 : Int)) (fun _ _ => rfl)) (fun _ _ => rfl)) (fun _ _ => rfl)) (fun _ h => h)
def cl41 (x : (Sl S_impl_Verdict)) : List (D RT den) := [(.rs x.z .impl_Verdict x.n x.f)]
theorem op41 : VOpens E Try.prog 41 cl41 W_sl_impl_Verdict := VOpens.slice (E := E) (τ := RT.impl_Verdict) (W := W_impl_Verdict) (dflt .impl_Verdict) Try.underlying41 (by kernel_rfl) op92 (by kernel_rfl) (of_decide_eq_true (by kernel_rfl))
set_option maxRecDepth 100000 in
theorem lifted (os : Os) (started : os.Started) (H : Type) (enc : TypeId × Value → H) :
    ReturnsInHanded {} Try.checked os 6 .any (Rows.fnExactVerdictForSpec.pre6 enc Try.prog Try.f6 Rows.fnExactVerdictForRow.domain false) (Rows.fnExactVerdictForSpec.post enc Try.prog Try.f6 false true false false) := by
  refine returnsInHanded_of_change_sized (C := Try.checked) own started (by kernel_rfl) Try.func6
    (ChangeSpec.witness6 (enc := enc) (C := Try.checked) false ⟨#[], #[.slice none 0 0, .int .i64 0, .int .i64 0], []⟩ 8 (by kernel_rfl) (by kernel_rfl) (by kernel_rfl) (by kernel_rfl)) ?_
  intro W base args ds gs before hval0 hW hcnd hsz0 _
  have hval : ∀ (j : Nat) t v, Try.f6.params[j]? = some t → args[j]? = some v → Value.okWide Try.prog W .any base t v := hval0
  have hW' := hW
  obtain ⟨p, q, hA0, hV, rfl, hfz, hnd⟩ := hW
  have hA : DataW.TrodAll enc Try.prog W 0 (fun _ => true) true Try.f6.params.toList args.toList ds p := hA0
  rw [Try.params6] at hA hval
  obtain ⟨v0, vs0, d0, ds0, p0, q0, hargs, rfl, rfl, h0, r0⟩ := trodAll_cons hA
  obtain ⟨v1, vs1, d1, ds1, p1, q1, rfl, rfl, rfl, h1, r1⟩ := trodAll_cons r0
  obtain ⟨v2, vs2, d2, ds2, p2, q2, rfl, rfl, rfl, h2, r2⟩ := trodAll_cons r1
  obtain ⟨rfl, rfl, rfl⟩ := trodAll_nil r2
  obtain rfl : args = #[v0, v1, v2] := by cases args; simp_all
  obtain ⟨rfl, rfl⟩ := trodVars_none hV
  have k0 := h0
  have lt0 : ∀ x ∈ p0, x.block < W.heap.size := by obtain ⟨m, hm⟩ := k0; exact DataW.trod_lt m _ _ _ hm
  obtain ⟨y0, t0, w0⟩ := vopen_row op41 Try.underlying41 (hval 0 41 v0 rfl rfl) h0
  obtain ⟨y1, rfl, rfl, rfl, w1⟩ := open_int Try.underlying2 (hval 1 2 v1 rfl rfl) h1
  have t1 : VRep E (live W) W noBet (.int .i64 y1) _ := .int .i64 y1
  obtain ⟨y2, rfl, rfl, rfl, w2⟩ := open_int Try.underlying2 (hval 2 2 v2 rfl rfl) h2
  have t2 : VRep E (live W) W noBet (.int .i64 y2) _ := .int .i64 y2
  have hg := goodv_laws_FnExactVerdictFor plainFuel y0 y1 y2 true (plain_FnExactVerdictFor y0 y1 y2 w0 w1 w2)
  refine (hg.calls (live W) W #[_, _, _] (fun b o h => h) rfl ?_).mono fun e W' ⟨v, F', he, bel, _, _, _, hv⟩ => ?_
  · intro i x hx
    match i, hx with
    | 0, hx => cases hx; exact t0
    | 1, hx => cases hx; exact t1
    | 2, hx => cases hx; exact t2
    | i + 3, hx => cases hx
  · have hb := VRep.toBool (b := true) hv
    subst he
    subst hb
    exact ⟨_, rfl, _, _, _, [], _, [], hW', trodAll_mk1 (shut_bool Try.underlying4 _), (trodAll_cons_mk (Below.trod laidOut (by kernel_rfl) (of_decide_eq_true (by kernel_rfl)) k0 bel lt0) (trodAll_cons_mk (shut_int Try.underlying2 w1) (trodAll_cons_mk (shut_int Try.underlying2 w2) trodAll_mk0))), rfl, bel.frame _, fun h => by cases h⟩
theorem over : Rows.fnExactVerdictForRow.holds Try.pinned (OpenSpec.ofChange Rows.fnExactVerdictForSpec) :=
  OpenClaim.holds_of_wide 6 Try.f6 rfl rfl rfl rfl rfl rfl rfl ⟨rfl, rfl, rfl, rfl, rfl⟩ rfl rfl rfl rfl rfl (by kernel_rfl) Try.func6 (by kernel_rfl)
    (of_decide_eq_true (by kernel_rfl)) (by unfold Func.isWrapper; first | (rw [if_pos (by decide +kernel)]; kernel_rfl) | (rw [if_neg (by decide +kernel)]; exact ⟨rfl, rfl⟩))
    (fun os started H enc _ => lifted os started H enc)
theorem proved : Rows.FnExactVerdictForSaid := over
#print axioms proved
end Go.Proofs.Ytnocoglmchnggaa.fnExactVerdictFor
namespace Go.Proofs.Ytnocoglmchnggaa
/-- The row, under a short name, for the claim. -/
theorem fnExactVerdictFor_holds : Rows.FnExactVerdictForSaid := fnExactVerdictFor.proved
end Go.Proofs.Ytnocoglmchnggaa
