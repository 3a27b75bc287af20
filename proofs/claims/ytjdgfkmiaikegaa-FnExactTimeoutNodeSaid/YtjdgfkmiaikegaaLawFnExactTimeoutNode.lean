/- The law FnExactTimeoutNode: for all arguments the call returns true, and each argument reads behind the call as it read before. -/
import Derived.Test.YtjdgfkmiaikegaaVmR
import Derived.Test.YtjdgfkmiaikegaaPdPlTime
import Derived.Test.YtjdgfkmiaikegaaRows
import Derived.WalkKit
import Derived.ProofKit
import Derived.OpenShut
import Derived.ShutString
import Derived.ChangeOld
import Derived.Below
import Derived.SizedLaws
namespace Go.Proofs.Ytjdgfkmiaikegaa.fnExactTimeoutNode
open Go.ChangeShapes Go.WideShapes Go.ChangeAt Go.RowKit Go.Proofs.Ytjdgfkmiaikegaa.Vm Go.Proofs.Ytjdgfkmiaikegaa.Pd
set_option linter.unusedVariables false
set_option linter.unusedSimpArgs false
theorem own : ownKnob Try.prog.godebug = none := by kernel_rfl
theorem laidOut : laidOutB Try.prog = true := by kernel_rfl
def cl2 (x : Int) : List (D RT den) := [(.int .i64 x)]
theorem op2 : VOpens E Try.prog 2 cl2 W_i64 := VOpens.int Try.underlying2 (by kernel_rfl)
def cl89 (x : S_impl_Cmd) : List (D RT den) := [(.int .i64 x.Kind), (.int .i64 x.Expect), (.int .i64 x.Name), (.int .i64 x.Addr), (.int .i64 x.Number), (.int .i64 x.Proto)]
theorem op89 : VOpens E Try.prog 89 cl89 W_impl_Cmd := VOpens.struct (ts := [(0, 2), (1, 2), (2, 2), (3, 2), (4, 2), (5, 2)]) (fun p => ⟨p.1, p.2.1, p.2.2.1, p.2.2.2.1, p.2.2.2.2.1, p.2.2.2.2.2⟩) (fun x : S_impl_Cmd => (x.Kind, x.Expect, x.Name, x.Addr, x.Number, x.Proto)) (fun _ => rfl) (fun _ => rfl) (fun _ => by kernel_rfl) Try.underlying89 rfl (VFields.cons 1 (by kernel_rfl) (0 : Int) ((0 : Int), ((0 : Int), ((0 : Int), ((0 : Int), (0 : Int))))) op2 (VFields.cons 1 (by kernel_rfl) (0 : Int) ((0 : Int), ((0 : Int), ((0 : Int), (0 : Int)))) op2 (VFields.cons 1 (by kernel_rfl) (0 : Int) ((0 : Int), ((0 : Int), (0 : Int))) op2 (VFields.cons 1 (by kernel_rfl) (0 : Int) ((0 : Int), (0 : Int)) op2 (VFields.cons 1 (by kernel_rfl) (0 : Int) (0 : Int) op2 (VFields.last op2 (0 : Int)) (fun _ _ => rfl)) (fun _ _ => rfl)) (fun _ _ => rfl)) (fun _ _ => rfl)) (fun _ _ => rfl)) (fun _ h => h)
def cl91 (x : S_laws_Entry) : List (D RT den) := [(.int .i64 x.Term), (.int .i64 x.Client), (.int .i64 x.Seq), (.int .i64 x.Cmd.Kind), (.int .i64 x.Cmd.Expect), (.int .i64 x.Cmd.Name), (.int .i64 x.Cmd.Addr), (.int .i64 x.Cmd.Number), (.int .i64 x.Cmd.Proto)]
theorem op91 : VOpens E Try.prog 91 cl91 W_laws_Entry := VOpens.struct (ts := [(0, 2), (1, 2), (2, 2), (3, 89)]) (fun p => ⟨p.1, p.2.1, p.2.2.1, p.2.2.2⟩) (fun x : S_laws_Entry => (x.Term, x.Client, x.Seq, x.Cmd)) (fun _ => rfl) (fun _ => rfl) (fun _ => by kernel_rfl) Try.underlying91 rfl (VFields.cons 1 (by kernel_rfl) (0 : Int) ((0 : Int), ((0 : Int), (⟨(0 : Int), (0 : Int), (0 : Int), (0 : Int), (0 : Int), (0 : Int)⟩ : S_impl_Cmd))) op2 (VFields.cons 1 (by kernel_rfl) (0 : Int) ((0 : Int), (⟨(0 : Int), (0 : Int), (0 : Int), (0 : Int), (0 : Int), (0 : Int)⟩ : S_impl_Cmd)) op2 (VFields.cons 1 (by kernel_rfl) (0 : Int) (⟨(0 : Int), (0 : Int), (0 : Int), (0 : Int), (0 : Int), (0 : Int)⟩ : S_impl_Cmd) op2 (VFields.last op89 (⟨(0 : Int), (0 : Int), (0 : Int), (0 : Int), (0 : Int), (0 : Int)⟩ : S_impl_Cmd)) (fun _ _ => rfl)) (fun _ _ => rfl)) (fun _ _ => rfl)) (fun _ h => h)
def cl22 (x : (Sl S_laws_Entry)) : List (D RT den) := [(.rs x.z .laws_Entry x.n x.f)]
theorem op22 : VOpens E Try.prog 22 cl22 W_sl_laws_Entry := VOpens.slice (E := E) (τ := RT.laws_Entry) (W := W_laws_Entry) (dflt .laws_Entry) Try.underlying22 (by kernel_rfl) op91 (by kernel_rfl) (of_decide_eq_true (by kernel_rfl))
def cl23 (x : (Sl Int)) : List (D RT den) := [(.rs x.z .i64 x.n x.f)]
theorem op23 : VOpens E Try.prog 23 cl23 W_sl_i64 := VOpens.slice (E := E) (τ := RT.i64) (W := W_i64) (dflt .i64) Try.underlying23 (by kernel_rfl) op2 (by kernel_rfl) (of_decide_eq_true (by kernel_rfl))
def cl25 (x : S_laws_Node) : List (D RT den) := [(.int .i64 x.Id), (.int .i64 x.Peers), (.int .i64 x.Term), (.int .i64 x.Voted), (.rs x.Log.z .laws_Entry x.Log.n x.Log.f), (.int .i64 x.Role), (.int .i64 x.Commit), (.rs x.Votes.z .i64 x.Votes.n x.Votes.f), (.rs x.Next.z .i64 x.Next.n x.Next.f), (.rs x.Match.z .i64 x.Match.n x.Match.f)]
theorem op25 : VOpens E Try.prog 25 cl25 W_laws_Node := VOpens.struct (ts := [(0, 2), (1, 2), (2, 2), (3, 2), (4, 22), (5, 2), (6, 2), (7, 23), (8, 23), (9, 23)]) (fun p => ⟨p.1, p.2.1, p.2.2.1, p.2.2.2.1, p.2.2.2.2.1, p.2.2.2.2.2.1, p.2.2.2.2.2.2.1, p.2.2.2.2.2.2.2.1, p.2.2.2.2.2.2.2.2.1, p.2.2.2.2.2.2.2.2.2⟩) (fun x : S_laws_Node => (x.Id, x.Peers, x.Term, x.Voted, x.Log, x.Role, x.Commit, x.Votes, x.Next, x.Match)) (fun _ => rfl) (fun _ => rfl) (fun _ => by kernel_rfl) Try.underlying25 rfl (VFields.cons 1 (by kernel_rfl) (0 : Int) ((0 : Int), ((0 : Int), ((0 : Int), ((⟨none, 0, fun _ => (⟨(0 : Int), (0 : Int), (0 : Int), (⟨(0 : Int), (0 : Int), (0 : Int), (0 : Int), (0 : Int), (0 : Int)⟩ : S_impl_Cmd)⟩ : S_laws_Entry)⟩ : (Sl S_laws_Entry)), ((0 : Int), ((0 : Int), ((⟨none, 0, fun _ => (0 : Int)⟩ : (Sl Int)), ((⟨none, 0, fun _ => (0 : Int)⟩ : (Sl Int)), (⟨none, 0, fun _ => (0 : Int)⟩ : (Sl Int)))))))))) op2 (VFields.cons 1 (by kernel_rfl) (0 : Int) ((0 : Int), ((0 : Int), ((⟨none, 0, fun _ => (⟨(0 : Int), (0 : Int), (0 : Int), (⟨(0 : Int), (0 : Int), (0 : Int), (0 : Int), (0 : Int), (0 : Int)⟩ : S_impl_Cmd)⟩ : S_laws_Entry)⟩ : (Sl S_laws_Entry)), ((0 : Int), ((0 : Int), ((⟨none, 0, fun _ => (0 : Int)⟩ : (Sl Int)), ((⟨none, 0, fun _ => (0 : Int)⟩ : (Sl Int)), (⟨none, 0, fun _ => (0 : Int)⟩ : (Sl Int))))))))) op2 (VFields.cons 1 (by kernel_rfl) (0 : Int) ((0 : Int), ((⟨none, 0, fun _ => (⟨(0 : Int), (0 : Int), (0 : Int), (⟨(0 : Int), (0 : Int), (0 : Int), (0 : Int), (0 : Int), (0 : Int)⟩ : S_impl_Cmd)⟩ : S_laws_Entry)⟩ : (Sl S_laws_Entry)), ((0 : Int), ((0 : Int), ((⟨none, 0, fun _ => (0 : Int)⟩ : (Sl Int)), ((⟨none, 0, fun _ => (0 : Int)⟩ : (Sl Int)), (⟨none, 0, fun _ => (0 : Int)⟩ : (Sl Int)))))))) op2 (VFields.cons 1 (by kernel_rfl) (0 : Int) ((⟨none, 0, fun _ => (⟨(0 : Int), (0 : Int), (0 : Int), (⟨(0 : Int), (0 : Int), (0 : Int), (0 : Int), (0 : Int), (0 : Int)⟩ : S_impl_Cmd)⟩ : S_laws_Entry)⟩ : (Sl S_laws_Entry)), ((0 : Int), ((0 : Int), ((⟨none, 0, fun _ => (0 : Int)⟩ : (Sl Int)), ((⟨none, 0, fun _ => (0 : Int)⟩ : (Sl Int)), (⟨none, 0, fun _ => (0 : Int)⟩ : (Sl Int))))))) op2 (VFields.cons 1 (by kernel_rfl) (⟨none, 0, fun _ => (⟨(0 : Int), (0 : Int), (0 : Int), (⟨(0 : Int), (0 : Int), (0 : Int), (0 : Int), (0 : Int), (0 : Int)⟩ : S_impl_Cmd)⟩ : S_laws_Entry)⟩ : (Sl S_laws_Entry)) ((0 : Int), ((0 : Int), ((⟨none, 0, fun _ => (0 : Int)⟩ : (Sl Int)), ((⟨none, 0, fun _ => (0 : Int)⟩ : (Sl Int)), (⟨none, 0, fun _ => (0 : Int)⟩ : (Sl Int)))))) op22 (VFields.cons 1 (by kernel_rfl) (0 : Int) ((0 : Int), ((⟨none, 0, fun _ => (0 : Int)⟩ : (Sl Int)), ((⟨none, 0, fun _ => (0 : Int)⟩ : (Sl Int)), (⟨none, 0, fun _ => (0 : Int)⟩ : (Sl Int))))) op2 (VFields.cons 1 (by kernel_rfl) (0 : Int) ((⟨none, 0, fun _ => (0 : Int)⟩ : (Sl Int)), ((⟨none, 0, fun _ => (0 : Int)⟩ : (Sl Int)), (⟨none, 0, fun _ => (0 : Int)⟩ : (Sl Int)))) op2 (VFields.cons 1 (by kernel_rfl) (⟨none, 0, fun _ => (0 : Int)⟩ : (Sl Int)) ((⟨none, 0, fun _ => (0 : Int)⟩ : (Sl Int)), (⟨none, 0, fun _ => (0 : Int)⟩ : (Sl Int))) op23 (VFields.cons 1 (by kernel_rfl) (⟨none, 0, fun _ => (0 : Int)⟩ : (Sl Int)) (⟨none, 0, fun _ => (0 : Int)⟩ : (Sl Int)) op23 (VFields.last op23 (⟨none, 0, fun _ => (0 : Int)⟩ : (Sl Int))) (fun _ _ => rfl)) (fun _ _ => rfl)) (fun _ _ => rfl)) (fun _ _ => rfl)) (fun _ _ => rfl)) (fun _ _ => rfl)) (fun _ _ => rfl)) (fun _ _ => rfl)) (fun _ _ => rfl)) (fun _ h => h)
set_option maxRecDepth 100000 in
theorem lifted (os : Os) (started : os.Started) (H : Type) (enc : TypeId × Value → H) :
    ReturnsInHanded {} Try.checked os 4 .any (Rows.fnExactTimeoutNodeSpec.pre6 enc Try.prog Try.f4 Rows.fnExactTimeoutNodeRow.domain false) (Rows.fnExactTimeoutNodeSpec.post enc Try.prog Try.f4 false true false false) := by
  refine returnsInHanded_of_change_sized (C := Try.checked) own started (by kernel_rfl) Try.func4
    (ChangeSpec.witness6 (enc := enc) (C := Try.checked) false ⟨#[], #[.agg #[.int .i64 0, .int .i64 0, .int .i64 0, .int .i64 0, .slice none 0 0, .int .i64 0, .int .i64 0, .slice none 0 0, .slice none 0 0, .slice none 0 0]], []⟩ 8 (by kernel_rfl) (by kernel_rfl) (by kernel_rfl) (by kernel_rfl)) ?_
  intro W base args ds gs before hval0 hW hcnd hsz0 _
  have hval : ∀ (j : Nat) t v, Try.f4.params[j]? = some t → args[j]? = some v → Value.okWide Try.prog W .any base t v := hval0
  have hW' := hW
  obtain ⟨p, q, hA0, hV, rfl, hfz, hnd⟩ := hW
  have hA : DataW.TrodAll enc Try.prog W 0 (fun _ => true) true Try.f4.params.toList args.toList ds p := hA0
  rw [Try.params4] at hA hval
  obtain ⟨v0, vs0, d0, ds0, p0, q0, hargs, rfl, rfl, h0, r0⟩ := trodAll_cons hA
  obtain ⟨rfl, rfl, rfl⟩ := trodAll_nil r0
  obtain rfl : args = #[v0] := by cases args; simp_all
  obtain ⟨rfl, rfl⟩ := trodVars_none hV
  have k0 := h0
  have lt0 : ∀ x ∈ p0, x.block < W.heap.size := by obtain ⟨m, hm⟩ := k0; exact DataW.trod_lt m _ _ _ hm
  obtain ⟨y0, t0, w0⟩ := vopen_agg op25 Try.underlying25 (hval 0 25 v0 rfl rfl) h0
  have hg := goodv_c0 plainFuel y0 true (plain_FnExactTimeoutNode y0 w0)
  refine (hg.calls (live W) W #[_] (fun b o h => h) rfl ?_).mono fun e W' ⟨v, F', he, bel, _, _, _, hv⟩ => ?_
  · intro i x hx
    match i, hx with
    | 0, hx => cases hx; exact t0
    | i + 1, hx => cases hx
  · have hb := VRep.toBool (b := true) hv
    subst he
    subst hb
    exact ⟨_, rfl, _, _, _, [], _, [], hW', trodAll_mk1 (shut_bool Try.underlying4 _), (trodAll_cons_mk (Below.trod laidOut (by kernel_rfl) (of_decide_eq_true (by kernel_rfl)) k0 bel lt0) trodAll_mk0), rfl, bel.frame _, fun h => by cases h⟩
theorem over : Rows.fnExactTimeoutNodeRow.holds Try.pinned (OpenSpec.ofChange Rows.fnExactTimeoutNodeSpec) :=
  OpenClaim.holds_of_wide 4 Try.f4 rfl rfl rfl rfl rfl rfl rfl ⟨rfl, rfl, rfl, rfl, rfl⟩ rfl rfl rfl rfl rfl (by kernel_rfl) Try.func4 (by kernel_rfl)
    (of_decide_eq_true (by kernel_rfl)) (by unfold Func.isWrapper; first | (rw [if_pos (by decide +kernel)]; kernel_rfl) | (rw [if_neg (by decide +kernel)]; exact ⟨rfl, rfl⟩))
    (fun os started H enc _ => lifted os started H enc)
theorem proved : Rows.FnExactTimeoutNodeSaid := over
#print axioms proved
end Go.Proofs.Ytjdgfkmiaikegaa.fnExactTimeoutNode
namespace Go.Proofs.Ytjdgfkmiaikegaa
/-- The row, under a short name, for the claim. -/
theorem fnExactTimeoutNode_holds : Rows.FnExactTimeoutNodeSaid := fnExactTimeoutNode.proved
end Go.Proofs.Ytjdgfkmiaikegaa
