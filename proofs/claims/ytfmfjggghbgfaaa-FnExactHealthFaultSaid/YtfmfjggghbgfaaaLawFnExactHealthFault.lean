/- The law FnExactHealthFault: for all arguments the call returns true, and each argument reads behind the call as it read before. -/
import Derived.Test.YtfmfjggghbgfaaaPFnExactHealthFaultx
import Derived.Test.YtfmfjggghbgfaaaPureFnExactHealthFault
import Derived.Test.YtfmfjggghbgfaaaTyFnExactHealthFault
import Derived.Test.YtfmfjggghbgfaaaRows
import Derived.Test.YtfmfjggghbgfaaaRKit
import Derived.WalkKit
import Derived.ProofKit
import Derived.OpenShut
import Derived.ShutString
import Derived.ChangeOld
import Derived.Below
import Derived.SizedLaws
namespace Go.Proofs.Ytfmfjggghbgfaaa.fnExactHealthFault
open Go.ChangeShapes Go.WideShapes Go.ChangeAt Go.RowKit Go.Proofs.Ytfmfjggghbgfaaa.PFnExactHealthFault Go.Proofs.Ytfmfjggghbgfaaa.RKit Go.Proofs.YtfmfjggghbgfaaaW.PrintWords
set_option linter.unusedVariables false
theorem own : ownKnob Try.prog.godebug = none := by kernel_rfl
theorem laidOut : laidOutB Try.prog = true := by kernel_rfl
def W2 (n : Int) : Prop := (Lit.int .i64 n).wf = true
theorem op2 : Opens Try.prog 2 (Kd.int .i64) W2 := Opens.int Try.underlying2 (by kernel_rfl)
def W4 (b : Bool) : Prop := True
theorem op4 : Opens Try.prog 4 Kd.bool W4 := Opens.bool Try.underlying4 (by kernel_rfl)
def W23 (x : S23) : Prop := W2 x.f0 ∧ W4 x.f1 ∧ W2 x.f2
theorem op23 : Opens Try.prog 23 k23 W23 := Opens.struct (ts := [(0, 2), (1, 4), (2, 2)]) (fun x : S23 => (x.f0, x.f1, x.f2)) (fun p => ⟨p.1, p.2.1, p.2.2⟩) (fun _ => rfl) Try.underlying23 rfl (by kernel_rfl) (FieldsAt.cons op2 (FieldsAt.cons op4 (FieldsAt.last op2)))
set_option maxRecDepth 100000 in
theorem lifted (os : Os) (started : os.Started) (H : Type) (enc : TypeId × Value → H) :
    ReturnsInHanded {} Try.checked os 3 .any (Rows.fnExactHealthFaultSpec.pre6 enc Try.prog Try.f3 Rows.fnExactHealthFaultRow.domain false) (Rows.fnExactHealthFaultSpec.post enc Try.prog Try.f3 false true false false) := by
  refine returnsInHanded_of_change_sized (C := Try.checked) own started (by kernel_rfl) Try.func3
    (ChangeSpec.witness6 (enc := enc) (C := Try.checked) false ⟨#[], #[.agg #[.int .i64 0, .bool false, .int .i64 0]], []⟩ 8 (by kernel_rfl) (by kernel_rfl) (by kernel_rfl) (by kernel_rfl)) ?_
  intro W base args ds gs before hval0 hW hcnd hsz0 _
  have hval : ∀ (j : Nat) t v, Try.f3.params[j]? = some t → args[j]? = some v → Value.okWide Try.prog W .any base t v := hval0
  have hW' := hW
  obtain ⟨p, q, hA0, hV, rfl, hfz, hnd⟩ := hW
  have hA : DataW.TrodAll enc Try.prog W 0 (fun _ => true) true Try.f3.params.toList args.toList ds p := hA0
  rw [Try.params3] at hA hval
  obtain ⟨v0, vs0, d0, ds0, p0, q0, hargs, rfl, rfl, h0, r0⟩ := trodAll_cons hA
  obtain ⟨rfl, rfl, rfl⟩ := trodAll_nil r0
  obtain rfl : args = #[v0] := by cases args; simp_all
  obtain ⟨rfl, rfl⟩ := trodVars_none hV
  have k0 := h0
  have lt0 : ∀ x ∈ p0, x.block < W.heap.size := by obtain ⟨m, hm⟩ := k0; exact DataW.trod_lt m _ _ _ hm
  obtain ⟨cs0, y0, rfl, hy0, w0⟩ := open_agg op23 Try.underlying23 (hval 0 23 v0 rfl rfl) h0
  have e0 := k23_open hy0
  obtain rfl : cs0 = #[.int .i64 y0.f0, .bool y0.f1, .int .i64 y0.f2] := by cases cs0; simp_all
  clear e0
  obtain ⟨k, hk⟩ := Pure.FnExactHealthFault y0 
  refine (laws_FnExactHealthFault.calls k y0.f0 y0.f1 y0.f2 true W  hk).mono fun e W' ⟨he, bel⟩ => ?_
  subst he
  exact ⟨_, rfl, _, _, _, [], _, [], hW', trodAll_mk1 (shut_bool Try.underlying4 _), (trodAll_cons_mk (Below.trod laidOut (by kernel_rfl) (of_decide_eq_true (by kernel_rfl)) k0 bel lt0) trodAll_mk0), rfl, bel.frame _, fun h => by cases h⟩
theorem over : Rows.fnExactHealthFaultRow.holds Try.pinned (OpenSpec.ofChange Rows.fnExactHealthFaultSpec) :=
  OpenClaim.holds_of_wide 3 Try.f3 rfl rfl rfl rfl rfl rfl rfl ⟨rfl, rfl, rfl, rfl, rfl⟩ rfl rfl rfl rfl rfl (by kernel_rfl) Try.func3 (by kernel_rfl)
    (of_decide_eq_true (by kernel_rfl)) (by unfold Func.isWrapper; first | (rw [if_pos (by decide +kernel)]; kernel_rfl) | (rw [if_neg (by decide +kernel)]; exact ⟨rfl, rfl⟩))
    (fun os started H enc _ => lifted os started H enc)
theorem proved : Rows.FnExactHealthFaultSaid := over
#print axioms proved
end Go.Proofs.Ytfmfjggghbgfaaa.fnExactHealthFault
namespace Go.Proofs.Ytfmfjggghbgfaaa
/-- The row, under a short name, for the claim. -/
theorem fnExactHealthFault_holds : Rows.FnExactHealthFaultSaid := fnExactHealthFault.proved
end Go.Proofs.Ytfmfjggghbgfaaa
