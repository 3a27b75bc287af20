/- The law FnExactLastOf: for all arguments the call returns true, and each argument reads behind the call as it read before. -/
import Derived.Test.YtfmfjggghbgfaaaPFnExactLastOfx
import Derived.Test.YtfmfjggghbgfaaaPureFnExactLastOf
import Derived.Test.YtfmfjggghbgfaaaTyFnExactLastOf
import Derived.Test.YtfmfjggghbgfaaaRows
import Derived.Test.YtfmfjggghbgfaaaRKit
import Derived.WalkKit
import Derived.ProofKit
import Derived.OpenShut
import Derived.ShutString
import Derived.ChangeOld
import Derived.Below
import Derived.SizedLaws
namespace Go.Proofs.Ytfmfjggghbgfaaa.fnExactLastOf
open Go.ChangeShapes Go.WideShapes Go.ChangeAt Go.RowKit Go.Proofs.Ytfmfjggghbgfaaa.PFnExactLastOf Go.Proofs.Ytfmfjggghbgfaaa.RKit Go.Proofs.YtfmfjggghbgfaaaW.PrintWords
set_option linter.unusedVariables false
theorem own : ownKnob Try.prog.godebug = none := by kernel_rfl
theorem laidOut : laidOutB Try.prog = true := by kernel_rfl
def W2 (n : Int) : Prop := (Lit.int .i64 n).wf = true
theorem op2 : Opens Try.prog 2 (Kd.int .i64) W2 := Opens.int Try.underlying2 (by kernel_rfl)
def W60 (x : S60) : Prop := W2 x.f0 ∧ W2 x.f1 ∧ W2 x.f2 ∧ W2 x.f3 ∧ W2 x.f4 ∧ W2 x.f5
theorem op60 : Opens Try.prog 60 k60 W60 := Opens.struct (ts := [(0, 2), (1, 2), (2, 2), (3, 2), (4, 2), (5, 2)]) (fun x : S60 => (x.f0, x.f1, x.f2, x.f3, x.f4, x.f5)) (fun p => ⟨p.1, p.2.1, p.2.2.1, p.2.2.2.1, p.2.2.2.2.1, p.2.2.2.2.2⟩) (fun _ => rfl) Try.underlying60 rfl (by kernel_rfl) (FieldsAt.cons op2 (FieldsAt.cons op2 (FieldsAt.cons op2 (FieldsAt.cons op2 (FieldsAt.cons op2 (FieldsAt.last op2))))))
def W62 (x : S62) : Prop := W2 x.f0 ∧ W2 x.f1 ∧ W2 x.f2 ∧ W60 x.f3
theorem op62 : Opens Try.prog 62 k62 W62 := Opens.struct (ts := [(0, 2), (1, 2), (2, 2), (3, 60)]) (fun x : S62 => (x.f0, x.f1, x.f2, x.f3)) (fun p => ⟨p.1, p.2.1, p.2.2.1, p.2.2.2⟩) (fun _ => rfl) Try.underlying62 rfl (by kernel_rfl) (FieldsAt.cons op2 (FieldsAt.cons op2 (FieldsAt.cons op2 (FieldsAt.last op60))))
def W35 (xs : List (S62)) : Prop := xs.length ≤ maxLen ∧ ∀ x ∈ xs, W62 x
theorem op35 : Opens Try.prog 35 (Kd.slice 62 k62) W35 := Opens.slice Try.underlying35 (by kernel_rfl) op62
set_option maxRecDepth 100000 in
theorem lifted (os : Os) (started : os.Started) (H : Type) (enc : TypeId × Value → H) :
    ReturnsInHanded {} Try.checked os 6 .any (Rows.fnExactLastOfSpec.pre6 enc Try.prog Try.f6 Rows.fnExactLastOfRow.domain false) (Rows.fnExactLastOfSpec.post enc Try.prog Try.f6 false true false false) := by
  refine returnsInHanded_of_change_sized (C := Try.checked) own started (by kernel_rfl) Try.func6
    (ChangeSpec.witness6 (enc := enc) (C := Try.checked) false ⟨#[], #[.slice none 0 0], []⟩ 8 (by kernel_rfl) (by kernel_rfl) (by kernel_rfl) (by kernel_rfl)) ?_
  intro W base args ds gs before hval0 hW hcnd hsz0 _
  have hval : ∀ (j : Nat) t v, Try.f6.params[j]? = some t → args[j]? = some v → Value.okWide Try.prog W .any base t v := hval0
  have hW' := hW
  obtain ⟨p, q, hA0, hV, rfl, hfz, hnd⟩ := hW
  have hA : DataW.TrodAll enc Try.prog W 0 (fun _ => true) true Try.f6.params.toList args.toList ds p := hA0
  rw [Try.params6] at hA hval
  obtain ⟨v0, vs0, d0, ds0, p0, q0, hargs, rfl, rfl, h0, r0⟩ := trodAll_cons hA
  obtain ⟨rfl, rfl, rfl⟩ := trodAll_nil r0
  obtain rfl : args = #[v0] := by cases args; simp_all
  obtain ⟨rfl, rfl⟩ := trodVars_none hV
  have k0 := h0
  have lt0 : ∀ x ∈ p0, x.block < W.heap.size := by obtain ⟨m, hm⟩ := k0; exact DataW.trod_lt m _ _ _ hm
  obtain ⟨A0, c0, l0, rfl, hc0, hr0, w0⟩ := open_row op35 Try.underlying35 (hval 0 35 v0 rfl rfl) h0
  obtain ⟨k, hk⟩ := Pure.FnExactLastOf l0 w0.1
  refine (laws_FnExactLastOf.calls k _ _ l0 true W hr0 hc0 hk).mono fun e W' ⟨he, bel⟩ => ?_
  subst he
  exact ⟨_, rfl, _, _, _, [], _, [], hW', trodAll_mk1 (shut_bool Try.underlying4 _), (trodAll_cons_mk (Below.trod laidOut (by kernel_rfl) (of_decide_eq_true (by kernel_rfl)) k0 bel lt0) trodAll_mk0), rfl, bel.frame _, fun h => by cases h⟩
theorem over : Rows.fnExactLastOfRow.holds Try.pinned (OpenSpec.ofChange Rows.fnExactLastOfSpec) :=
  OpenClaim.holds_of_wide 6 Try.f6 rfl rfl rfl rfl rfl rfl rfl ⟨rfl, rfl, rfl, rfl, rfl⟩ rfl rfl rfl rfl rfl (by kernel_rfl) Try.func6 (by kernel_rfl)
    (of_decide_eq_true (by kernel_rfl)) (by unfold Func.isWrapper; first | (rw [if_pos (by decide +kernel)]; kernel_rfl) | (rw [if_neg (by decide +kernel)]; exact ⟨rfl, rfl⟩))
    (fun os started H enc _ => lifted os started H enc)
theorem proved : Rows.FnExactLastOfSaid := over
#print axioms proved
end Go.Proofs.Ytfmfjggghbgfaaa.fnExactLastOf
namespace Go.Proofs.Ytfmfjggghbgfaaa
/-- The row, under a short name, for the claim. -/
theorem fnExactLastOf_holds : Rows.FnExactLastOfSaid := fnExactLastOf.proved
end Go.Proofs.Ytfmfjggghbgfaaa
