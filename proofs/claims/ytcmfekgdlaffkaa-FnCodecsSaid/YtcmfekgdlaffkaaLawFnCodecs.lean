/- The law FnCodecs: for all arguments the call returns true, and each argument reads behind the call as it read before. -/
import Derived.Test.YtcmfekgdlaffkaaVmR
import Derived.Test.YtcmfekgdlaffkaaPqPlCodL
import Derived.Test.YtcmfekgdlaffkaaRows
import Derived.WalkKit
import Derived.ProofKit
import Derived.OpenShut
import Derived.ShutString
import Derived.ChangeOld
import Derived.Below
import Derived.SizedLaws
namespace Go.Proofs.Ytcmfekgdlaffkaa.fnCodecs
open Go.ChangeShapes Go.WideShapes Go.ChangeAt Go.RowKit Go.Proofs.Ytcmfekgdlaffkaa.Vm Go.Proofs.Ytcmfekgdlaffkaa.Pq
set_option linter.unusedVariables false
set_option linter.unusedSimpArgs false
theorem own : ownKnob Try.prog.godebug = none := by kernel_rfl
theorem laidOut : laidOutB Try.prog = true := by kernel_rfl
def cl5 (x : Int) : List (D RT den) := [(.int .u8 x)]
theorem op5 : VOpens E Try.prog 5 cl5 W_u8 := VOpens.int Try.underlying5 (by kernel_rfl)
def cl22 (x : (Sl Int)) : List (D RT den) := [(.rs x.z .u8 x.n x.f)]
theorem op22 : VOpens E Try.prog 22 cl22 W_sl_u8 := VOpens.slice (E := E) (τ := RT.u8) (W := W_u8) (dflt .u8) Try.underlying22 (by kernel_rfl) op5 (by kernel_rfl) (of_decide_eq_true (by kernel_rfl))
set_option maxRecDepth 100000 in
theorem lifted (os : Os) (started : os.Started) (H : Type) (enc : TypeId × Value → H) :
    ReturnsInHanded {} Try.checked os 4 .any (Rows.fnCodecsSpec.pre6 enc Try.prog Try.f4 Rows.fnCodecsRow.domain false) (Rows.fnCodecsSpec.post enc Try.prog Try.f4 false true false false) := by
  refine returnsInHanded_of_change_sized (C := Try.checked) own started (by kernel_rfl) Try.func4
    (ChangeSpec.witness6 (enc := enc) (C := Try.checked) false ⟨#[], #[.slice none 0 0], []⟩ 8 (by kernel_rfl) (by kernel_rfl) (by kernel_rfl) (by kernel_rfl)) ?_
  intro W base args ds gs before hval0 hW hcnd hsz0 _
  have hval : ∀ (j : Nat) t v, Try.f4.params[j]? = some t → args[j]? = some v → Value.okWide Try.prog W .any base t v := hval0
  have hW' := hW
  obtain ⟨p, q, hA0, hV, rfl, hfz, hnd⟩ := hW
  have hA : DataW.TrodAll enc Try.prog W 0 (fun _ => true) true Try.f4.params.toList args.toList ds p := hA0
  rw [Try.params4] at hA hval
  obtain ⟨v0, vs0, d0, ds0, p0, q0, hargs, rfl, rfl, h0, r0⟩ := trodAll_cons hA
  obtain ⟨rfl, rfl, rfl⟩ := trodAll_nil r0
  obtain rfl : args = #[v0] := by cases args; simp_all
  obtain ⟨rfl, rfl⟩ := trodVars_none hV
  have k0 := h0
  have lt0 : ∀ x ∈ p0, x.block < W.heap.size := by obtain ⟨m, hm⟩ := k0; exact DataW.trod_lt m _ _ _ hm
  obtain ⟨y0, t0, w0⟩ := vopen_row op22 Try.underlying22 (hval 0 22 v0 rfl rfl) h0
  have hg := goodv_b38 plainFuel y0 true (plain_FnCodecs y0 w0)
  refine (hg.calls (live W) W #[_] ⟨fun b o h => h, fun g cs hg => by cases (show (none : Option (Array Value)) = some cs from hg)⟩ rfl ?_).mono fun e W' ⟨v, F', he, bel, _, _, _, hv⟩ => ?_
  · intro i x hx
    match i, hx with
    | 0, hx => cases hx; exact t0
    | i + 1, hx => cases hx
  · have hb := VRep.toBool (b := true) hv
    subst he
    subst hb
    exact ⟨_, rfl, _, _, _, [], _, [], hW', trodAll_mk1 (shut_bool Try.underlying4 _), (trodAll_cons_mk (Below.trod laidOut (by kernel_rfl) (of_decide_eq_true (by kernel_rfl)) k0 bel lt0) trodAll_mk0), rfl, bel.frame _, fun h => by cases h⟩
theorem over : Rows.fnCodecsRow.holds Try.pinned (OpenSpec.ofChange Rows.fnCodecsSpec) :=
  OpenClaim.holds_of_wide 4 Try.f4 rfl rfl rfl rfl rfl rfl rfl ⟨rfl, rfl, rfl, rfl, rfl⟩ rfl rfl rfl rfl rfl (by kernel_rfl) Try.func4 (by kernel_rfl)
    (of_decide_eq_true (by kernel_rfl)) (by unfold Func.isWrapper; first | (rw [if_pos (by decide +kernel)]; kernel_rfl) | (rw [if_neg (by decide +kernel)]; exact ⟨rfl, rfl⟩))
    (fun os started H enc _ => lifted os started H enc)
theorem proved : Rows.FnCodecsSaid := over
#print axioms proved
end Go.Proofs.Ytcmfekgdlaffkaa.fnCodecs
namespace Go.Proofs.Ytcmfekgdlaffkaa
/-- The row, under a short name, for the claim. -/
theorem fnCodecs_holds : Rows.FnCodecsSaid := fnCodecs.proved
end Go.Proofs.Ytcmfekgdlaffkaa
