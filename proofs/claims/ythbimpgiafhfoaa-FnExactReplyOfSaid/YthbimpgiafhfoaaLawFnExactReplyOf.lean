/- The law FnExactReplyOf: for all arguments the call returns true, and each argument reads behind the call as it read before. -/
import Derived.Test.YthbimpgiafhfoaaVmR
import Derived.Test.YthbimpgiafhfoaaPcPlUpd
import Derived.Test.YthbimpgiafhfoaaRows
import Derived.WalkKit
import Derived.ProofKit
import Derived.OpenShut
import Derived.ShutString
import Derived.ChangeOld
import Derived.Below
import Derived.SizedLaws
namespace Go.Proofs.Ythbimpgiafhfoaa.fnExactReplyOf
open Go.ChangeShapes Go.WideShapes Go.ChangeAt Go.RowKit Go.Proofs.Ythbimpgiafhfoaa.Vm Go.Proofs.Ythbimpgiafhfoaa.Pc
set_option linter.unusedVariables false
set_option linter.unusedSimpArgs false
theorem own : ownKnob Try.prog.godebug = none := by kernel_rfl
theorem laidOut : laidOutB Try.prog = true := by kernel_rfl
def cl2 (x : Int) : List (D RT den) := [(.int .i64 x)]
theorem op2 : VOpens E Try.prog 2 cl2 W_i64 := VOpens.int Try.underlying2 (by kernel_rfl)
def cl4 (x : Bool) : List (D RT den) := [(.bool x)]
theorem op4 : VOpens E Try.prog 4 cl4 W_bo := VOpens.bool Try.underlying4 (by kernel_rfl)
def cl168 (x : S_impl_Backend) : List (D RT den) := [(.int .i64 x.Name), (.int .i64 x.Address), (.int .i64 x.Weight), (.int .i64 x.Stage), (.bool x.Up)]
theorem op168 : VOpens E Try.prog 168 cl168 W_impl_Backend := VOpens.struct (ts := [(0, 2), (1, 2), (2, 2), (3, 2), (4, 4)]) (fun p => ⟨p.1, p.2.1, p.2.2.1, p.2.2.2.1, p.2.2.2.2⟩) (fun x : S_impl_Backend => (x.Name, x.Address, x.Weight, x.Stage, x.Up)) (fun _ => rfl) (fun _ => rfl) (fun _ => by kernel_rfl) Try.underlying168 rfl (VFields.cons 1 (by kernel_rfl) (0 : Int) ((0 : Int), ((0 : Int), ((0 : Int), false))) op2 (VFields.cons 1 (by kernel_rfl) (0 : Int) ((0 : Int), ((0 : Int), false)) op2 (VFields.cons 1 (by kernel_rfl) (0 : Int) ((0 : Int), false) op2 (VFields.cons 1 (by kernel_rfl) (0 : Int) false op2 (VFields.last op4 false) (fun _ _ => rfl)) (fun _ _ => rfl)) (fun _ _ => rfl)) (fun _ _ => rfl)) (fun _ h => h)
def cl22 (x : (Sl S_impl_Backend)) : List (D RT den) := [(.rs x.z .impl_Backend x.n x.f)]
theorem op22 : VOpens E Try.prog 22 cl22 W_sl_impl_Backend := VOpens.slice (E := E) (τ := RT.impl_Backend) (W := W_impl_Backend) (dflt .impl_Backend) Try.underlying22 (by kernel_rfl) op168 (by kernel_rfl) (of_decide_eq_true (by kernel_rfl))
def cl138 (x : (Sl Int)) : List (D RT den) := [(.rs x.z .i64 x.n x.f)]
theorem op138 : VOpens E Try.prog 138 cl138 W_sl_i64 := VOpens.slice (E := E) (τ := RT.i64) (W := W_i64) (dflt .i64) Try.underlying138 (by kernel_rfl) op2 (by kernel_rfl) (of_decide_eq_true (by kernel_rfl))
def cl166 (x : S_impl_Vip) : List (D RT den) := [(.int .i64 x.Address), (.int .i64 x.Port), (.int .i64 x.Proto), (.rs x.Names.z .i64 x.Names.n x.Names.f)]
theorem op166 : VOpens E Try.prog 166 cl166 W_impl_Vip := VOpens.struct (ts := [(0, 2), (1, 2), (2, 2), (3, 138)]) (fun p => ⟨p.1, p.2.1, p.2.2.1, p.2.2.2⟩) (fun x : S_impl_Vip => (x.Address, x.Port, x.Proto, x.Names)) (fun _ => rfl) (fun _ => rfl) (fun _ => by kernel_rfl) Try.underlying166 rfl (VFields.cons 1 (by kernel_rfl) (0 : Int) ((0 : Int), ((0 : Int), (⟨none, 0, fun _ => (0 : Int)⟩ : (Sl Int)))) op2 (VFields.cons 1 (by kernel_rfl) (0 : Int) ((0 : Int), (⟨none, 0, fun _ => (0 : Int)⟩ : (Sl Int))) op2 (VFields.cons 1 (by kernel_rfl) (0 : Int) (⟨none, 0, fun _ => (0 : Int)⟩ : (Sl Int)) op2 (VFields.last op138 (⟨none, 0, fun _ => (0 : Int)⟩ : (Sl Int))) (fun _ _ => rfl)) (fun _ _ => rfl)) (fun _ _ => rfl)) (fun _ h => h)
def cl23 (x : (Sl S_impl_Vip)) : List (D RT den) := [(.rs x.z .impl_Vip x.n x.f)]
theorem op23 : VOpens E Try.prog 23 cl23 W_sl_impl_Vip := VOpens.slice (E := E) (τ := RT.impl_Vip) (W := W_impl_Vip) (dflt .impl_Vip) Try.underlying23 (by kernel_rfl) op166 (by kernel_rfl) (of_decide_eq_true (by kernel_rfl))
def cl25 (x : S_laws_Config) : List (D RT den) := [(.int .i64 x.Version), (.rs x.Backends.z .impl_Backend x.Backends.n x.Backends.f), (.rs x.Vips.z .impl_Vip x.Vips.n x.Vips.f)]
theorem op25 : VOpens E Try.prog 25 cl25 W_laws_Config := VOpens.struct (ts := [(0, 2), (1, 22), (2, 23)]) (fun p => ⟨p.1, p.2.1, p.2.2⟩) (fun x : S_laws_Config => (x.Version, x.Backends, x.Vips)) (fun _ => rfl) (fun _ => rfl) (fun _ => by kernel_rfl) Try.underlying25 rfl (VFields.cons 1 (by kernel_rfl) (0 : Int) ((⟨none, 0, fun _ => (⟨(0 : Int), (0 : Int), (0 : Int), (0 : Int), false⟩ : S_impl_Backend)⟩ : (Sl S_impl_Backend)), (⟨none, 0, fun _ => (⟨(0 : Int), (0 : Int), (0 : Int), (⟨none, 0, fun _ => (0 : Int)⟩ : (Sl Int))⟩ : S_impl_Vip)⟩ : (Sl S_impl_Vip))) op2 (VFields.cons 1 (by kernel_rfl) (⟨none, 0, fun _ => (⟨(0 : Int), (0 : Int), (0 : Int), (0 : Int), false⟩ : S_impl_Backend)⟩ : (Sl S_impl_Backend)) (⟨none, 0, fun _ => (⟨(0 : Int), (0 : Int), (0 : Int), (⟨none, 0, fun _ => (0 : Int)⟩ : (Sl Int))⟩ : S_impl_Vip)⟩ : (Sl S_impl_Vip)) op22 (VFields.last op23 (⟨none, 0, fun _ => (⟨(0 : Int), (0 : Int), (0 : Int), (⟨none, 0, fun _ => (0 : Int)⟩ : (Sl Int))⟩ : S_impl_Vip)⟩ : (Sl S_impl_Vip))) (fun _ _ => rfl)) (fun _ _ => rfl)) (fun _ h => h)
def cl151 (x : S_impl_Session) : List (D RT den) := [(.int .i64 x.Client), (.int .i64 x.Seq), (.int .i64 x.Code)]
theorem op151 : VOpens E Try.prog 151 cl151 W_impl_Session := VOpens.struct (ts := [(0, 2), (1, 2), (2, 2)]) (fun p => ⟨p.1, p.2.1, p.2.2⟩) (fun x : S_impl_Session => (x.Client, x.Seq, x.Code)) (fun _ => rfl) (fun _ => rfl) (fun _ => by kernel_rfl) Try.underlying151 rfl (VFields.cons 1 (by kernel_rfl) (0 : Int) ((0 : Int), (0 : Int)) op2 (VFields.cons 1 (by kernel_rfl) (0 : Int) (0 : Int) op2 (VFields.last op2 (0 : Int)) (fun _ _ => rfl)) (fun _ _ => rfl)) (fun _ h => h)
def cl26 (x : (Sl S_impl_Session)) : List (D RT den) := [(.rs x.z .impl_Session x.n x.f)]
theorem op26 : VOpens E Try.prog 26 cl26 W_sl_impl_Session := VOpens.slice (E := E) (τ := RT.impl_Session) (W := W_impl_Session) (dflt .impl_Session) Try.underlying26 (by kernel_rfl) op151 (by kernel_rfl) (of_decide_eq_true (by kernel_rfl))
def cl28 (x : S_laws_Machine) : List (D RT den) := [(.int .i64 x.Config.Version), (.rs x.Config.Backends.z .impl_Backend x.Config.Backends.n x.Config.Backends.f), (.rs x.Config.Vips.z .impl_Vip x.Config.Vips.n x.Config.Vips.f), (.rs x.Sessions.z .impl_Session x.Sessions.n x.Sessions.f)]
theorem op28 : VOpens E Try.prog 28 cl28 W_laws_Machine := VOpens.struct (ts := [(0, 25), (3, 26)]) (fun p => ⟨p.1, p.2⟩) (fun x : S_laws_Machine => (x.Config, x.Sessions)) (fun _ => rfl) (fun _ => rfl) (fun _ => by kernel_rfl) Try.underlying28 rfl (VFields.cons 3 (by kernel_rfl) (⟨(0 : Int), (⟨none, 0, fun _ => (⟨(0 : Int), (0 : Int), (0 : Int), (0 : Int), false⟩ : S_impl_Backend)⟩ : (Sl S_impl_Backend)), (⟨none, 0, fun _ => (⟨(0 : Int), (0 : Int), (0 : Int), (⟨none, 0, fun _ => (0 : Int)⟩ : (Sl Int))⟩ : S_impl_Vip)⟩ : (Sl S_impl_Vip))⟩ : S_laws_Config) (⟨none, 0, fun _ => (⟨(0 : Int), (0 : Int), (0 : Int)⟩ : S_impl_Session)⟩ : (Sl S_impl_Session)) op25 (VFields.last op26 (⟨none, 0, fun _ => (⟨(0 : Int), (0 : Int), (0 : Int)⟩ : S_impl_Session)⟩ : (Sl S_impl_Session))) (fun _ _ => rfl)) (fun _ h => h)
set_option maxRecDepth 100000 in
theorem lifted (os : Os) (started : os.Started) (H : Type) (enc : TypeId × Value → H) :
    ReturnsInHanded {} Try.checked os 4 .any (Rows.fnExactReplyOfSpec.pre6 enc Try.prog Try.f4 Rows.fnExactReplyOfRow.domain false) (Rows.fnExactReplyOfSpec.post enc Try.prog Try.f4 false true false false) := by
  refine returnsInHanded_of_change_sized (C := Try.checked) own started (by kernel_rfl) Try.func4
    (ChangeSpec.witness6 (enc := enc) (C := Try.checked) false ⟨#[], #[.agg #[.int .i64 0, .slice none 0 0, .slice none 0 0, .slice none 0 0], .int .i64 0, .int .i64 0], []⟩ 8 (by kernel_rfl) (by kernel_rfl) (by kernel_rfl) (by kernel_rfl)) ?_
  intro W base args ds gs before hval0 hW hcnd hsz0 _
  have hval : ∀ (j : Nat) t v, Try.f4.params[j]? = some t → args[j]? = some v → Value.okWide Try.prog W .any base t v := hval0
  have hW' := hW
  obtain ⟨p, q, hA0, hV, rfl, hfz, hnd⟩ := hW
  have hA : DataW.TrodAll enc Try.prog W 0 (fun _ => true) true Try.f4.params.toList args.toList ds p := hA0
  rw [Try.params4] at hA hval
  obtain ⟨v0, vs0, d0, ds0, p0, q0, hargs, rfl, rfl, h0, r0⟩ := trodAll_cons hA
  obtain ⟨v1, vs1, d1, ds1, p1, q1, rfl, rfl, rfl, h1, r1⟩ := trodAll_cons r0
  obtain ⟨v2, vs2, d2, ds2, p2, q2, rfl, rfl, rfl, h2, r2⟩ := trodAll_cons r1
  obtain ⟨rfl, rfl, rfl⟩ := trodAll_nil r2
  obtain rfl : args = #[v0, v1, v2] := by cases args; simp_all
  obtain ⟨rfl, rfl⟩ := trodVars_none hV
  have k0 := h0
  have lt0 : ∀ x ∈ p0, x.block < W.heap.size := by obtain ⟨m, hm⟩ := k0; exact DataW.trod_lt m _ _ _ hm
  obtain ⟨y0, t0, w0⟩ := vopen_agg op28 Try.underlying28 (hval 0 28 v0 rfl rfl) h0
  obtain ⟨y1, rfl, rfl, rfl, w1⟩ := open_int Try.underlying2 (hval 1 2 v1 rfl rfl) h1
  have t1 : VRep E (live W) W noBet (.int .i64 y1) _ := .int .i64 y1
  obtain ⟨y2, rfl, rfl, rfl, w2⟩ := open_int Try.underlying2 (hval 2 2 v2 rfl rfl) h2
  have t2 : VRep E (live W) W noBet (.int .i64 y2) _ := .int .i64 y2
  have hg := goodv_laws_FnExactReplyOf plainFuel y0 y1 y2 true (plain_FnExactReplyOf y0 y1 y2 w0 w1 w2)
  refine (hg.calls (live W) W #[_, _, _] (fun b o h => h) rfl ?_).mono fun e W' ⟨v, F', he, bel, _, _, _, hv⟩ => ?_
  · intro i x hx
    match i, hx with
    | 0, hx => cases hx; exact t0
    | 1, hx => cases hx; exact t1
    | 2, hx => cases hx; exact t2
    | i + 3, hx => cases hx
  · have hb := VRep.toBool (b := true) hv
    subst he
    subst hb
    exact ⟨_, rfl, _, _, _, [], _, [], hW', trodAll_mk1 (shut_bool Try.underlying4 _), (trodAll_cons_mk (Below.trod laidOut (by kernel_rfl) (of_decide_eq_true (by kernel_rfl)) k0 bel lt0) (trodAll_cons_mk (shut_int Try.underlying2 w1) (trodAll_cons_mk (shut_int Try.underlying2 w2) trodAll_mk0))), rfl, bel.frame _, fun h => by cases h⟩
theorem over : Rows.fnExactReplyOfRow.holds Try.pinned (OpenSpec.ofChange Rows.fnExactReplyOfSpec) :=
  OpenClaim.holds_of_wide 4 Try.f4 rfl rfl rfl rfl rfl rfl rfl ⟨rfl, rfl, rfl, rfl, rfl⟩ rfl rfl rfl rfl rfl (by kernel_rfl) Try.func4 (by kernel_rfl)
    (of_decide_eq_true (by kernel_rfl)) (by unfold Func.isWrapper; first | (rw [if_pos (by decide +kernel)]; kernel_rfl) | (rw [if_neg (by decide +kernel)]; exact ⟨rfl, rfl⟩))
    (fun os started H enc _ => lifted os started H enc)
theorem proved : Rows.FnExactReplyOfSaid := over
#print axioms proved
end Go.Proofs.Ythbimpgiafhfoaa.fnExactReplyOf
namespace Go.Proofs.Ythbimpgiafhfoaa
/-- The row, under a short name, for the claim. -/
theorem fnExactReplyOf_holds : Rows.FnExactReplyOfSaid := fnExactReplyOf.proved
end Go.Proofs.Ythbimpgiafhfoaa
