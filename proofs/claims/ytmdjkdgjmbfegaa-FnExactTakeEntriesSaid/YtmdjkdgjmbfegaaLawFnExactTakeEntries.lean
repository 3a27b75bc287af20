/- The law FnExactTakeEntries: for all arguments the call returns true, and each argument reads behind the call as it read before. -/
import Derived.Test.YtmdjkdgjmbfegaaVmR
import Derived.Test.YtmdjkdgjmbfegaaPcPlTake
import Derived.Test.YtmdjkdgjmbfegaaRows
import Derived.WalkKit
import Derived.ProofKit
import Derived.OpenShut
import Derived.ShutString
import Derived.ChangeOld
import Derived.Below
import Derived.SizedLaws
namespace Go.Proofs.Ytmdjkdgjmbfegaa.fnExactTakeEntries
open Go.ChangeShapes Go.WideShapes Go.ChangeAt Go.RowKit Go.Proofs.Ytmdjkdgjmbfegaa.Vm Go.Proofs.Ytmdjkdgjmbfegaa.Pc
set_option linter.unusedVariables false
set_option linter.unusedSimpArgs false
theorem own : ownKnob Try.prog.godebug = none := by kernel_rfl
theorem laidOut : laidOutB Try.prog = true := by kernel_rfl
def cl2 (x : Int) : List (D RT den) := [(.int .i64 x)]
theorem op2 : VOpens E Try.prog 2 cl2 W_i64 := VOpens.int Try.underlying2 (by kernel_rfl)
def cl77 (x : S_impl_Cmd) : List (D RT den) := [(.int .i64 x.Kind), (.int .i64 x.Expect), (.int .i64 x.Name), (.int .i64 x.Addr), (.int .i64 x.Number), (.int .i64 x.Proto)]
theorem op77 : VOpens E Try.prog 77 cl77 W_impl_Cmd := VOpens.struct (ts := [(0, 2), (1, 2), (2, 2), (3, 2), (4, 2), (5, 2)]) (fun p => ⟨p.1, p.2.1, p.2.2.1, p.2.2.2.1, p.2.2.2.2.1, p.2.2.2.2.2⟩) (fun x : S_impl_Cmd => (x.Kind, x.Expect, x.Name, x.Addr, x.Number, x.Proto)) (fun _ => rfl) (fun _ => rfl) (fun _ => by kernel_rfl) Try.underlying77 rfl (VFields.cons 1 (by kernel_rfl) (0 : Int) ((0 : Int), ((0 : Int), ((0 : Int), ((0 : Int), (0 : Int))))) op2 (VFields.cons 1 (by kernel_rfl) (0 : Int) ((0 : Int), ((0 : Int), ((0 : Int), (0 : Int)))) op2 (VFields.cons 1 (by kernel_rfl) (0 : Int) ((0 : Int), ((0 : Int), (0 : Int))) op2 (VFields.cons 1 (by kernel_rfl) (0 : Int) ((0 : Int), (0 : Int)) op2 (VFields.cons 1 (by kernel_rfl) (0 : Int) (0 : Int) op2 (VFields.last op2 (0 : Int)) (fun _ _ => rfl)) (fun _ _ => rfl)) (fun _ _ => rfl)) (fun _ _ => rfl)) (fun _ _ => rfl)) (fun _ h => h)
def cl79 (x : S_laws_Entry) : List (D RT den) := [(.int .i64 x.Term), (.int .i64 x.Client), (.int .i64 x.Seq), (.int .i64 x.Cmd.Kind), (.int .i64 x.Cmd.Expect), (.int .i64 x.Cmd.Name), (.int .i64 x.Cmd.Addr), (.int .i64 x.Cmd.Number), (.int .i64 x.Cmd.Proto)]
theorem op79 : VOpens E Try.prog 79 cl79 W_laws_Entry := VOpens.struct (ts := [(0, 2), (1, 2), (2, 2), (3, 77)]) (fun p => ⟨p.1, p.2.1, p.2.2.1, p.2.2.2⟩) (fun x : S_laws_Entry => (x.Term, x.Client, x.Seq, x.Cmd)) (fun _ => rfl) (fun _ => rfl) (fun _ => by kernel_rfl) Try.underlying79 rfl (VFields.cons 1 (by kernel_rfl) (0 : Int) ((0 : Int), ((0 : Int), (⟨(0 : Int), (0 : Int), (0 : Int), (0 : Int), (0 : Int), (0 : Int)⟩ : S_impl_Cmd))) op2 (VFields.cons 1 (by kernel_rfl) (0 : Int) ((0 : Int), (⟨(0 : Int), (0 : Int), (0 : Int), (0 : Int), (0 : Int), (0 : Int)⟩ : S_impl_Cmd)) op2 (VFields.cons 1 (by kernel_rfl) (0 : Int) (⟨(0 : Int), (0 : Int), (0 : Int), (0 : Int), (0 : Int), (0 : Int)⟩ : S_impl_Cmd) op2 (VFields.last op77 (⟨(0 : Int), (0 : Int), (0 : Int), (0 : Int), (0 : Int), (0 : Int)⟩ : S_impl_Cmd)) (fun _ _ => rfl)) (fun _ _ => rfl)) (fun _ _ => rfl)) (fun _ h => h)
def cl22 (x : (Sl S_laws_Entry)) : List (D RT den) := [(.rs x.z .laws_Entry x.n x.f)]
theorem op22 : VOpens E Try.prog 22 cl22 W_sl_laws_Entry := VOpens.slice (E := E) (τ := RT.laws_Entry) (W := W_laws_Entry) (dflt .laws_Entry) Try.underlying22 (by kernel_rfl) op79 (by kernel_rfl) (of_decide_eq_true (by kernel_rfl))
set_option maxRecDepth 100000 in
theorem lifted (os : Os) (started : os.Started) (H : Type) (enc : TypeId × Value → H) :
    ReturnsInHanded {} Try.checked os 3 .any (Rows.fnExactTakeEntriesSpec.pre6 enc Try.prog Try.f3 Rows.fnExactTakeEntriesRow.domain false) (Rows.fnExactTakeEntriesSpec.post enc Try.prog Try.f3 false true false false) := by
  refine returnsInHanded_of_change_sized (C := Try.checked) own started (by kernel_rfl) Try.func3
    (ChangeSpec.witness6 (enc := enc) (C := Try.checked) false ⟨#[], #[.slice none 0 0, .int .i64 0, .int .i64 0, .slice none 0 0], []⟩ 8 (by kernel_rfl) (by kernel_rfl) (by kernel_rfl) (by kernel_rfl)) ?_
  intro W base args ds gs before hval0 hW hcnd hsz0 _
  have hval : ∀ (j : Nat) t v, Try.f3.params[j]? = some t → args[j]? = some v → Value.okWide Try.prog W .any base t v := hval0
  have hW' := hW
  obtain ⟨p, q, hA0, hV, rfl, hfz, hnd⟩ := hW
  have hA : DataW.TrodAll enc Try.prog W 0 (fun _ => true) true Try.f3.params.toList args.toList ds p := hA0
  rw [Try.params3] at hA hval
  obtain ⟨v0, vs0, d0, ds0, p0, q0, hargs, rfl, rfl, h0, r0⟩ := trodAll_cons hA
  obtain ⟨v1, vs1, d1, ds1, p1, q1, rfl, rfl, rfl, h1, r1⟩ := trodAll_cons r0
  obtain ⟨v2, vs2, d2, ds2, p2, q2, rfl, rfl, rfl, h2, r2⟩ := trodAll_cons r1
  obtain ⟨v3, vs3, d3, ds3, p3, q3, rfl, rfl, rfl, h3, r3⟩ := trodAll_cons r2
  obtain ⟨rfl, rfl, rfl⟩ := trodAll_nil r3
  obtain rfl : args = #[v0, v1, v2, v3] := by cases args; simp_all
  obtain ⟨rfl, rfl⟩ := trodVars_none hV
  have k0 := h0
  have lt0 : ∀ x ∈ p0, x.block < W.heap.size := by obtain ⟨m, hm⟩ := k0; exact DataW.trod_lt m _ _ _ hm
  obtain ⟨y0, t0, w0⟩ := vopen_row op22 Try.underlying22 (hval 0 22 v0 rfl rfl) h0
  obtain ⟨y1, rfl, rfl, rfl, w1⟩ := open_int Try.underlying2 (hval 1 2 v1 rfl rfl) h1
  have t1 : VRep E (live W) W noBet (.int .i64 y1) _ := .int .i64 y1
  obtain ⟨y2, rfl, rfl, rfl, w2⟩ := open_int Try.underlying2 (hval 2 2 v2 rfl rfl) h2
  have t2 : VRep E (live W) W noBet (.int .i64 y2) _ := .int .i64 y2
  have k3 := h3
  have lt3 : ∀ x ∈ p3, x.block < W.heap.size := by obtain ⟨m, hm⟩ := k3; exact DataW.trod_lt m _ _ _ hm
  obtain ⟨y3, t3, w3⟩ := vopen_row op22 Try.underlying22 (hval 3 22 v3 rfl rfl) h3
  have hg := goodv_laws_FnExactTakeEntries plainFuel y0 y1 y2 y3 true (plain_FnExactTakeEntries y0 y1 y2 y3 w0 w1 w2 w3)
  refine (hg.calls (live W) W #[_, _, _, _] (fun b o h => h) rfl ?_).mono fun e W' ⟨v, F', he, bel, _, _, _, hv⟩ => ?_
  · intro i x hx
    match i, hx with
    | 0, hx => cases hx; exact t0
    | 1, hx => cases hx; exact t1
    | 2, hx => cases hx; exact t2
    | 3, hx => cases hx; exact t3
    | i + 4, hx => cases hx
  · have hb := VRep.toBool (b := true) hv
    subst he
    subst hb
    exact ⟨_, rfl, _, _, _, [], _, [], hW', trodAll_mk1 (shut_bool Try.underlying4 _), (trodAll_cons_mk (Below.trod laidOut (by kernel_rfl) (of_decide_eq_true (by kernel_rfl)) k0 bel lt0) (trodAll_cons_mk (shut_int Try.underlying2 w1) (trodAll_cons_mk (shut_int Try.underlying2 w2) (trodAll_cons_mk (Below.trod laidOut (by kernel_rfl) (of_decide_eq_true (by kernel_rfl)) k3 bel lt3) trodAll_mk0)))), rfl, bel.frame _, fun h => by cases h⟩
theorem over : Rows.fnExactTakeEntriesRow.holds Try.pinned (OpenSpec.ofChange Rows.fnExactTakeEntriesSpec) :=
  OpenClaim.holds_of_wide 3 Try.f3 rfl rfl rfl rfl rfl rfl rfl ⟨rfl, rfl, rfl, rfl, rfl⟩ rfl rfl rfl rfl rfl (by kernel_rfl) Try.func3 (by kernel_rfl)
    (of_decide_eq_true (by kernel_rfl)) (by unfold Func.isWrapper; first | (rw [if_pos (by decide +kernel)]; kernel_rfl) | (rw [if_neg (by decide +kernel)]; exact ⟨rfl, rfl⟩))
    (fun os started H enc _ => lifted os started H enc)
theorem proved : Rows.FnExactTakeEntriesSaid := over
#print axioms proved
end Go.Proofs.Ytmdjkdgjmbfegaa.fnExactTakeEntries
namespace Go.Proofs.Ytmdjkdgjmbfegaa
/-- The row, under a short name, for the claim. -/
theorem fnExactTakeEntries_holds : Rows.FnExactTakeEntriesSaid := fnExactTakeEntries.proved
end Go.Proofs.Ytmdjkdgjmbfegaa
