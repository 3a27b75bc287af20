/- The law FnExactVerdictsFault: for all arguments the call returns true, and each argument reads behind the call as it read before. -/
import Derived.Test.YtfmfjggghbgfaaaPFnExactVerdictsFaultx
import Derived.Test.YtfmfjggghbgfaaaPureFnExactVerdictsFault
import Derived.Test.YtfmfjggghbgfaaaTyFnExactVerdictsFault
import Derived.Test.YtfmfjggghbgfaaaRows
import Derived.Test.YtfmfjggghbgfaaaRKit
import Derived.WalkKit
import Derived.ProofKit
import Derived.OpenShut
import Derived.ShutString
import Derived.ChangeOld
import Derived.Below
import Derived.SizedLaws
namespace Go.Proofs.Ytfmfjggghbgfaaa.fnExactVerdictsFault
open Go.ChangeShapes Go.WideShapes Go.ChangeAt Go.RowKit Go.Proofs.Ytfmfjggghbgfaaa.PFnExactVerdictsFault Go.Proofs.Ytfmfjggghbgfaaa.RKit Go.Proofs.YtfmfjggghbgfaaaW.PrintWords
set_option linter.unusedVariables false
theorem own : ownKnob Try.prog.godebug = none := by kernel_rfl
theorem laidOut : laidOutB Try.prog = true := by kernel_rfl
def W2 (n : Int) : Prop := (Lit.int .i64 n).wf = true
theorem op2 : Opens Try.prog 2 (Kd.int .i64) W2 := Opens.int Try.underlying2 (by kernel_rfl)
def W4 (b : Bool) : Prop := True
theorem op4 : Opens Try.prog 4 Kd.bool W4 := Opens.bool Try.underlying4 (by kernel_rfl)
def W82 (x : S82) : Prop := W2 x.f0 ∧ W2 x.f1 ∧ W4 x.f2 ∧ W2 x.f3
theorem op82 : Opens Try.prog 82 k82 W82 := Opens.struct (ts := [(0, 2), (1, 2), (2, 4), (3, 2)]) (fun x : S82 => (x.f0, x.f1, x.f2, x.f3)) (fun p => ⟨p.1, p.2.1, p.2.2.1, p.2.2.2⟩) (fun _ => rfl) Try.underlying82 rfl (by kernel_rfl) (FieldsAt.cons op2 (FieldsAt.cons op2 (FieldsAt.cons op4 (FieldsAt.last op2))))
def W28 (xs : List (S82)) : Prop := xs.length ≤ maxLen ∧ ∀ x ∈ xs, W82 x
theorem op28 : Opens Try.prog 28 (Kd.slice 82 k82) W28 := Opens.slice Try.underlying28 (by kernel_rfl) op82
set_option maxRecDepth 100000 in
theorem lifted (os : Os) (started : os.Started) (H : Type) (enc : TypeId × Value → H) :
    ReturnsInHanded {} Try.checked os 4 .any (Rows.fnExactVerdictsFaultSpec.pre6 enc Try.prog Try.f4 Rows.fnExactVerdictsFaultRow.domain false) (Rows.fnExactVerdictsFaultSpec.post enc Try.prog Try.f4 false true false false) := by
  refine returnsInHanded_of_change_sized (C := Try.checked) own started (by kernel_rfl) Try.func4
    (ChangeSpec.witness6 (enc := enc) (C := Try.checked) false ⟨#[], #[.slice none 0 0], []⟩ 8 (by kernel_rfl) (by kernel_rfl) (by kernel_rfl) (by kernel_rfl)) ?_
  intro W base args ds gs before hval0 hW hcnd hsz0 _
  have hval : ∀ (j : Nat) t v, Try.f4.params[j]? = some t → args[j]? = some v → Value.okWide Try.prog W .any base t v := hval0
  have hW' := hW
  obtain ⟨p, q, hA0, hV, rfl, hfz, hnd⟩ := hW
  have hA : DataW.TrodAll enc Try.prog W 0 (fun _ => true) true Try.f4.params.toList args.toList ds p := hA0
  rw [Try.params4] at hA hval
  obtain ⟨v0, vs0, d0, ds0, p0, q0, hargs, rfl, rfl, h0, r0⟩ := trodAll_cons hA
  obtain ⟨rfl, rfl, rfl⟩ := trodAll_nil r0
  obtain rfl : args = #[v0] := by cases args; simp_all
  obtain ⟨rfl, rfl⟩ := trodVars_none hV
  have k0 := h0
  have lt0 : ∀ x ∈ p0, x.block < W.heap.size := by obtain ⟨m, hm⟩ := k0; exact DataW.trod_lt m _ _ _ hm
  obtain ⟨A0, c0, l0, rfl, hc0, hr0, w0⟩ := open_row op28 Try.underlying28 (hval 0 28 v0 rfl rfl) h0
  obtain ⟨k, hk⟩ := Pure.FnExactVerdictsFault l0 w0.1
  refine (laws_FnExactVerdictsFault.calls k _ _ l0 true W hr0 hc0 hk).mono fun e W' ⟨he, bel⟩ => ?_
  subst he
  exact ⟨_, rfl, _, _, _, [], _, [], hW', trodAll_mk1 (shut_bool Try.underlying4 _), (trodAll_cons_mk (Below.trod laidOut (by kernel_rfl) (of_decide_eq_true (by kernel_rfl)) k0 bel lt0) trodAll_mk0), rfl, bel.frame _, fun h => by cases h⟩
theorem over : Rows.fnExactVerdictsFaultRow.holds Try.pinned (OpenSpec.ofChange Rows.fnExactVerdictsFaultSpec) :=
  OpenClaim.holds_of_wide 4 Try.f4 rfl rfl rfl rfl rfl rfl rfl ⟨rfl, rfl, rfl, rfl, rfl⟩ rfl rfl rfl rfl rfl (by kernel_rfl) Try.func4 (by kernel_rfl)
    (of_decide_eq_true (by kernel_rfl)) (by unfold Func.isWrapper; first | (rw [if_pos (by decide +kernel)]; kernel_rfl) | (rw [if_neg (by decide +kernel)]; exact ⟨rfl, rfl⟩))
    (fun os started H enc _ => lifted os started H enc)
theorem proved : Rows.FnExactVerdictsFaultSaid := over
#print axioms proved
end Go.Proofs.Ytfmfjggghbgfaaa.fnExactVerdictsFault
namespace Go.Proofs.Ytfmfjggghbgfaaa
/-- The row, under a short name, for the claim. -/
theorem fnExactVerdictsFault_holds : Rows.FnExactVerdictsFaultSaid := fnExactVerdictsFault.proved
end Go.Proofs.Ytfmfjggghbgfaaa
