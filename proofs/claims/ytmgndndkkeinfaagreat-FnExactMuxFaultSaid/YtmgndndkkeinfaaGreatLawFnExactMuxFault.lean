/- The law FnExactMuxFault: for all arguments the call returns true, and each argument reads behind the call as it read before. -/
import Derived.Test.YtmgndndkkeinfaaGreatVmR
import Derived.Test.YtmgndndkkeinfaaGreatPcPlMux
import Derived.Test.YtmgndndkkeinfaaGreatRows
import Derived.WalkKit
import Derived.ProofKit
import Derived.OpenShut
import Derived.ShutString
import Derived.ChangeOld
import Derived.Below
import Derived.SizedLaws
namespace Go.Proofs.YtmgndndkkeinfaaGreat.fnExactMuxFault
open Go.ChangeShapes Go.WideShapes Go.ChangeAt Go.RowKit Go.Proofs.YtmgndndkkeinfaaGreat.Vm Go.Proofs.YtmgndndkkeinfaaGreat.Pc
set_option linter.unusedVariables false
set_option linter.unusedSimpArgs false
theorem own : ownKnob Tryz.prog.godebug = none := by kernel_rfl
theorem laidOut : laidOutB Tryz.prog = true := by kernel_rfl
def cl2 (x : Int) : List (D RT den) := [(.int .i64 x)]
theorem op2 : VOpens E Tryz.prog 2 cl2 W_i64 := VOpens.int Tryz.underlying2 (by kernel_rfl)
def cl4 (x : Bool) : List (D RT den) := [(.bool x)]
theorem op4 : VOpens E Tryz.prog 4 cl4 W_bo := VOpens.bool Tryz.underlying4 (by kernel_rfl)
def cl138 (x : S_impl_Backend) : List (D RT den) := [(.int .i64 x.Name), (.int .i64 x.Address), (.int .i64 x.Weight), (.int .i64 x.Stage), (.bool x.Up)]
theorem op138 : VOpens E Tryz.prog 138 cl138 W_impl_Backend := VOpens.struct (ts := [(0, 2), (1, 2), (2, 2), (3, 2), (4, 4)]) (fun p => ⟨p.1, p.2.1, p.2.2.1, p.2.2.2.1, p.2.2.2.2⟩) (fun x : S_impl_Backend => (x.Name, x.Address, x.Weight, x.Stage, x.Up)) (fun _ => rfl) (fun _ => rfl) (fun _ => by kernel_rfl) Tryz.underlying138 rfl (VFields.cons 1 (by kernel_rfl) (0 : Int) ((0 : Int), ((0 : Int), ((0 : Int), false))) op2 (VFields.cons 1 (by kernel_rfl) (0 : Int) ((0 : Int), ((0 : Int), false)) op2 (VFields.cons 1 (by kernel_rfl) (0 : Int) ((0 : Int), false) op2 (VFields.cons 1 (by kernel_rfl) (0 : Int) false op2 (VFields.last op4 false) (fun _ _ => rfl)) (fun _ _ => rfl)) (fun _ _ => rfl)) (fun _ _ => rfl)) (fun _ h => h)
def cl22 (x : (Sl S_impl_Backend)) : List (D RT den) := [(.rs x.z .impl_Backend x.n x.f)]
theorem op22 : VOpens E Tryz.prog 22 cl22 W_sl_impl_Backend := VOpens.slice (E := E) (τ := RT.impl_Backend) (W := W_impl_Backend) (dflt .impl_Backend) Tryz.underlying22 (by kernel_rfl) op138 (by kernel_rfl) (of_decide_eq_true (by kernel_rfl))
def cl68 (x : (Sl Int)) : List (D RT den) := [(.rs x.z .i64 x.n x.f)]
theorem op68 : VOpens E Tryz.prog 68 cl68 W_sl_i64 := VOpens.slice (E := E) (τ := RT.i64) (W := W_i64) (dflt .i64) Tryz.underlying68 (by kernel_rfl) op2 (by kernel_rfl) (of_decide_eq_true (by kernel_rfl))
def cl131 (x : S_impl_Vip) : List (D RT den) := [(.int .i64 x.Address), (.int .i64 x.Port), (.int .i64 x.Proto), (.rs x.Names.z .i64 x.Names.n x.Names.f)]
theorem op131 : VOpens E Tryz.prog 131 cl131 W_impl_Vip := VOpens.struct (ts := [(0, 2), (1, 2), (2, 2), (3, 68)]) (fun p => ⟨p.1, p.2.1, p.2.2.1, p.2.2.2⟩) (fun x : S_impl_Vip => (x.Address, x.Port, x.Proto, x.Names)) (fun _ => rfl) (fun _ => rfl) (fun _ => by kernel_rfl) Tryz.underlying131 rfl (VFields.cons 1 (by kernel_rfl) (0 : Int) ((0 : Int), ((0 : Int), (⟨none, 0, fun _ => (0 : Int)⟩ : (Sl Int)))) op2 (VFields.cons 1 (by kernel_rfl) (0 : Int) ((0 : Int), (⟨none, 0, fun _ => (0 : Int)⟩ : (Sl Int))) op2 (VFields.cons 1 (by kernel_rfl) (0 : Int) (⟨none, 0, fun _ => (0 : Int)⟩ : (Sl Int)) op2 (VFields.last op68 (⟨none, 0, fun _ => (0 : Int)⟩ : (Sl Int))) (fun _ _ => rfl)) (fun _ _ => rfl)) (fun _ _ => rfl)) (fun _ h => h)
def cl23 (x : (Sl S_impl_Vip)) : List (D RT den) := [(.rs x.z .impl_Vip x.n x.f)]
theorem op23 : VOpens E Tryz.prog 23 cl23 W_sl_impl_Vip := VOpens.slice (E := E) (τ := RT.impl_Vip) (W := W_impl_Vip) (dflt .impl_Vip) Tryz.underlying23 (by kernel_rfl) op131 (by kernel_rfl) (of_decide_eq_true (by kernel_rfl))
def cl25 (x : S_laws_Config) : List (D RT den) := [(.int .i64 x.Version), (.rs x.Backends.z .impl_Backend x.Backends.n x.Backends.f), (.rs x.Vips.z .impl_Vip x.Vips.n x.Vips.f)]
theorem op25 : VOpens E Tryz.prog 25 cl25 W_laws_Config := VOpens.struct (ts := [(0, 2), (1, 22), (2, 23)]) (fun p => ⟨p.1, p.2.1, p.2.2⟩) (fun x : S_laws_Config => (x.Version, x.Backends, x.Vips)) (fun _ => rfl) (fun _ => rfl) (fun _ => by kernel_rfl) Tryz.underlying25 rfl (VFields.cons 1 (by kernel_rfl) (0 : Int) ((⟨none, 0, fun _ => (⟨(0 : Int), (0 : Int), (0 : Int), (0 : Int), false⟩ : S_impl_Backend)⟩ : (Sl S_impl_Backend)), (⟨none, 0, fun _ => (⟨(0 : Int), (0 : Int), (0 : Int), (⟨none, 0, fun _ => (0 : Int)⟩ : (Sl Int))⟩ : S_impl_Vip)⟩ : (Sl S_impl_Vip))) op2 (VFields.cons 1 (by kernel_rfl) (⟨none, 0, fun _ => (⟨(0 : Int), (0 : Int), (0 : Int), (0 : Int), false⟩ : S_impl_Backend)⟩ : (Sl S_impl_Backend)) (⟨none, 0, fun _ => (⟨(0 : Int), (0 : Int), (0 : Int), (⟨none, 0, fun _ => (0 : Int)⟩ : (Sl Int))⟩ : S_impl_Vip)⟩ : (Sl S_impl_Vip)) op22 (VFields.last op23 (⟨none, 0, fun _ => (⟨(0 : Int), (0 : Int), (0 : Int), (⟨none, 0, fun _ => (0 : Int)⟩ : (Sl Int))⟩ : S_impl_Vip)⟩ : (Sl S_impl_Vip))) (fun _ _ => rfl)) (fun _ _ => rfl)) (fun _ h => h)
def cl27 (x : S_laws_Watch) : List (D RT den) := [(.bool x.Ready), (.int .i64 x.Config.Version), (.rs x.Config.Backends.z .impl_Backend x.Config.Backends.n x.Config.Backends.f), (.rs x.Config.Vips.z .impl_Vip x.Config.Vips.n x.Config.Vips.f)]
theorem op27 : VOpens E Tryz.prog 27 cl27 W_laws_Watch := VOpens.struct (ts := [(0, 4), (1, 25)]) (fun p => ⟨p.1, p.2⟩) (fun x : S_laws_Watch => (x.Ready, x.Config)) (fun _ => rfl) (fun _ => rfl) (fun _ => by kernel_rfl) Tryz.underlying27 rfl (VFields.cons 1 (by kernel_rfl) false (⟨(0 : Int), (⟨none, 0, fun _ => (⟨(0 : Int), (0 : Int), (0 : Int), (0 : Int), false⟩ : S_impl_Backend)⟩ : (Sl S_impl_Backend)), (⟨none, 0, fun _ => (⟨(0 : Int), (0 : Int), (0 : Int), (⟨none, 0, fun _ => (0 : Int)⟩ : (Sl Int))⟩ : S_impl_Vip)⟩ : (Sl S_impl_Vip))⟩ : S_laws_Config) op4 (VFields.last op25 (⟨(0 : Int), (⟨none, 0, fun _ => (⟨(0 : Int), (0 : Int), (0 : Int), (0 : Int), false⟩ : S_impl_Backend)⟩ : (Sl S_impl_Backend)), (⟨none, 0, fun _ => (⟨(0 : Int), (0 : Int), (0 : Int), (⟨none, 0, fun _ => (0 : Int)⟩ : (Sl Int))⟩ : S_impl_Vip)⟩ : (Sl S_impl_Vip))⟩ : S_laws_Config)) (fun _ _ => rfl)) (fun _ h => h)
def cl28 (x : (Sl (Sl Int))) : List (D RT den) := [(.rs x.z .sl_i64 x.n x.f)]
theorem op28 : VOpens E Tryz.prog 28 cl28 W_sl_sl_i64 := VOpens.slice (E := E) (τ := RT.sl_i64) (W := W_sl_i64) (dflt .sl_i64) Tryz.underlying28 (by kernel_rfl) op68 (by kernel_rfl) (of_decide_eq_true (by kernel_rfl))
def cl47 (x : S_impl_Flow) : List (D RT den) := [(.int .i64 x.From), (.int .i64 x.To), (.int .i64 x.Proto), (.int .i64 x.FromP), (.int .i64 x.ToP)]
theorem op47 : VOpens E Tryz.prog 47 cl47 W_impl_Flow := VOpens.struct (ts := [(0, 2), (1, 2), (2, 2), (3, 2), (4, 2)]) (fun p => ⟨p.1, p.2.1, p.2.2.1, p.2.2.2.1, p.2.2.2.2⟩) (fun x : S_impl_Flow => (x.From, x.To, x.Proto, x.FromP, x.ToP)) (fun _ => rfl) (fun _ => rfl) (fun _ => by kernel_rfl) Tryz.underlying47 rfl (VFields.cons 1 (by kernel_rfl) (0 : Int) ((0 : Int), ((0 : Int), ((0 : Int), (0 : Int)))) op2 (VFields.cons 1 (by kernel_rfl) (0 : Int) ((0 : Int), ((0 : Int), (0 : Int))) op2 (VFields.cons 1 (by kernel_rfl) (0 : Int) ((0 : Int), (0 : Int)) op2 (VFields.cons 1 (by kernel_rfl) (0 : Int) (0 : Int) op2 (VFields.last op2 (0 : Int)) (fun _ _ => rfl)) (fun _ _ => rfl)) (fun _ _ => rfl)) (fun _ _ => rfl)) (fun _ h => h)
def cl89 (x : S_laws_Held) : List (D RT den) := [(.int .i64 x.Flow.From), (.int .i64 x.Flow.To), (.int .i64 x.Flow.Proto), (.int .i64 x.Flow.FromP), (.int .i64 x.Flow.ToP), (.int .i64 x.Name), (.int .i64 x.Seen)]
theorem op89 : VOpens E Tryz.prog 89 cl89 W_laws_Held := VOpens.struct (ts := [(0, 47), (5, 2), (6, 2)]) (fun p => ⟨p.1, p.2.1, p.2.2⟩) (fun x : S_laws_Held => (x.Flow, x.Name, x.Seen)) (fun _ => rfl) (fun _ => rfl) (fun _ => by kernel_rfl) Tryz.underlying89 rfl (VFields.cons 5 (by kernel_rfl) (⟨(0 : Int), (0 : Int), (0 : Int), (0 : Int), (0 : Int)⟩ : S_impl_Flow) ((0 : Int), (0 : Int)) op47 (VFields.cons 1 (by kernel_rfl) (0 : Int) (0 : Int) op2 (VFields.last op2 (0 : Int)) (fun _ _ => rfl)) (fun _ _ => rfl)) (fun _ h => h)
def cl29 (x : (Sl S_laws_Held)) : List (D RT den) := [(.rs x.z .laws_Held x.n x.f)]
theorem op29 : VOpens E Tryz.prog 29 cl29 W_sl_laws_Held := VOpens.slice (E := E) (τ := RT.laws_Held) (W := W_laws_Held) (dflt .laws_Held) Tryz.underlying29 (by kernel_rfl) op89 (by kernel_rfl) (of_decide_eq_true (by kernel_rfl))
def cl31 (x : S_laws_Mux) : List (D RT den) := [(.int .i64 x.Address), (.int .i64 x.Now), (.bool x.Watch.Ready), (.int .i64 x.Watch.Config.Version), (.rs x.Watch.Config.Backends.z .impl_Backend x.Watch.Config.Backends.n x.Watch.Config.Backends.f), (.rs x.Watch.Config.Vips.z .impl_Vip x.Watch.Config.Vips.n x.Watch.Config.Vips.f), (.rs x.Tables.z .sl_i64 x.Tables.n x.Tables.f), (.rs x.Cache.z .laws_Held x.Cache.n x.Cache.f)]
theorem op31 : VOpens E Tryz.prog 31 cl31 W_laws_Mux := VOpens.struct (ts := [(0, 2), (1, 2), (2, 27), (6, 28), (7, 29)]) (fun p => ⟨p.1, p.2.1, p.2.2.1, p.2.2.2.1, p.2.2.2.2⟩) (fun x : S_laws_Mux => (x.Address, x.Now, x.Watch, x.Tables, x.Cache)) (fun _ => rfl) (fun _ => rfl) (fun _ => by kernel_rfl) Tryz.underlying31 rfl (VFields.cons 1 (by kernel_rfl) (0 : Int) ((0 : Int), ((⟨false, (⟨(0 : Int), (⟨none, 0, fun _ => (⟨(0 : Int), (0 : Int), (0 : Int), (0 : Int), false⟩ : S_impl_Backend)⟩ : (Sl S_impl_Backend)), (⟨none, 0, fun _ => (⟨(0 : Int), (0 : Int), (0 : Int), (⟨none, 0, fun _ => (0 : Int)⟩ : (Sl Int))⟩ : S_impl_Vip)⟩ : (Sl S_impl_Vip))⟩ : S_laws_Config)⟩ : S_laws_Watch), ((⟨none, 0, fun _ => (⟨none, 0, fun _ => (0 : Int)⟩ : (Sl Int))⟩ : (Sl (Sl Int))), (⟨none, 0, fun _ => (⟨(⟨(0 : Int), (0 : Int), (0 : Int), (0 : Int), (0 : Int)⟩ : S_impl_Flow), (0 : Int), (0 : Int)⟩ : S_laws_Held)⟩ : (Sl S_laws_Held))))) op2 (VFields.cons 1 (by kernel_rfl) (0 : Int) ((⟨false, (⟨(0 : Int), (⟨none, 0, fun _ => (⟨(0 : Int), (0 : Int), (0 : Int), (0 : Int), false⟩ : S_impl_Backend)⟩ : (Sl S_impl_Backend)), (⟨none, 0, fun _ => (⟨(0 : Int), (0 : Int), (0 : Int), (⟨none, 0, fun _ => (0 : Int)⟩ : (Sl Int))⟩ : S_impl_Vip)⟩ : (Sl S_impl_Vip))⟩ : S_laws_Config)⟩ : S_laws_Watch), ((⟨none, 0, fun _ => (⟨none, 0, fun _ => (0 : Int)⟩ : (Sl Int))⟩ : (Sl (Sl Int))), (⟨none, 0, fun _ => (⟨(⟨(0 : Int), (0 : Int), (0 : Int), (0 : Int), (0 : Int)⟩ : S_impl_Flow), (0 : Int), (0 : Int)⟩ : S_laws_Held)⟩ : (Sl S_laws_Held)))) op2 (VFields.cons 4 (by kernel_rfl) (⟨false, (⟨(0 : Int), (⟨none, 0, fun _ => (⟨(0 : Int), (0 : Int), (0 : Int), (0 : Int), false⟩ : S_impl_Backend)⟩ : (Sl S_impl_Backend)), (⟨none, 0, fun _ => (⟨(0 : Int), (0 : Int), (0 : Int), (⟨none, 0, fun _ => (0 : Int)⟩ : (Sl Int))⟩ : S_impl_Vip)⟩ : (Sl S_impl_Vip))⟩ : S_laws_Config)⟩ : S_laws_Watch) ((⟨none, 0, fun _ => (⟨none, 0, fun _ => (0 : Int)⟩ : (Sl Int))⟩ : (Sl (Sl Int))), (⟨none, 0, fun _ => (⟨(⟨(0 : Int), (0 : Int), (0 : Int), (0 : Int), (0 : Int)⟩ : S_impl_Flow), (0 : Int), (0 : Int)⟩ : S_laws_Held)⟩ : (Sl S_laws_Held))) op27 (VFields.cons 1 (by kernel_rfl) (⟨none, 0, fun _ => (⟨none, 0, fun _ => (0 : Int)⟩ : (Sl Int))⟩ : (Sl (Sl Int))) (⟨none, 0, fun _ => (⟨(⟨(0 : Int), (0 : Int), (0 : Int), (0 : Int), (0 : Int)⟩ : S_impl_Flow), (0 : Int), (0 : Int)⟩ : S_laws_Held)⟩ : (Sl S_laws_Held)) op28 (VFields.last op29 (⟨none, 0, fun _ => (⟨(⟨(0 : Int), (0 : Int), (0 : Int), (0 : Int), (0 : Int)⟩ : S_impl_Flow), (0 : Int), (0 : Int)⟩ : S_laws_Held)⟩ : (Sl S_laws_Held))) (fun _ _ => rfl)) (fun _ _ => rfl)) (fun _ _ => rfl)) (fun _ _ => rfl)) (fun _ h => h)
set_option maxRecDepth 100000 in
theorem lifted (os : Os) (started : os.Started) (H : Type) (enc : TypeId × Value → H) :
    ReturnsInHanded {} Tryz.checked os 3 .any (Rows.fnExactMuxFaultSpec.pre6 enc Tryz.prog Tryz.f3 Rows.fnExactMuxFaultRow.domain false) (Rows.fnExactMuxFaultSpec.post enc Tryz.prog Tryz.f3 false true false false) := by
  refine returnsInHanded_of_change_sized (C := Tryz.checked) own started (by kernel_rfl) Tryz.func3
    (ChangeSpec.witness6 (enc := enc) (C := Tryz.checked) false ⟨#[], #[.agg #[.int .i64 0, .int .i64 0, .bool false, .int .i64 0, .slice none 0 0, .slice none 0 0, .slice none 0 0, .slice none 0 0]], []⟩ 8 (by kernel_rfl) (by kernel_rfl) (by kernel_rfl) (by kernel_rfl)) ?_
  intro W base args ds gs before hval0 hW hcnd hsz0 _
  have hval : ∀ (j : Nat) t v, Tryz.f3.params[j]? = some t → args[j]? = some v → Value.okWide Tryz.prog W .any base t v := hval0
  have hW' := hW
  obtain ⟨p, q, hA0, hV, rfl, hfz, hnd⟩ := hW
  have hA : DataW.TrodAll enc Tryz.prog W 0 (fun _ => true) true Tryz.f3.params.toList args.toList ds p := hA0
  rw [Tryz.params3] at hA hval
  obtain ⟨v0, vs0, d0, ds0, p0, q0, hargs, rfl, rfl, h0, r0⟩ := trodAll_cons hA
  obtain ⟨rfl, rfl, rfl⟩ := trodAll_nil r0
  obtain rfl : args = #[v0] := by cases args; simp_all
  obtain ⟨rfl, rfl⟩ := trodVars_none hV
  have k0 := h0
  have lt0 : ∀ x ∈ p0, x.block < W.heap.size := by obtain ⟨m, hm⟩ := k0; exact DataW.trod_lt m _ _ _ hm
  obtain ⟨y0, t0, w0⟩ := vopen_agg op31 Tryz.underlying31 (hval 0 31 v0 rfl rfl) h0
  have hg := goodv_laws_FnExactMuxFault plainFuel y0 true (plain_FnExactMuxFault y0 w0)
  refine (hg.calls (live W) W #[_] (fun b o h => h) rfl ?_).mono fun e W' ⟨v, F', he, bel, _, _, _, hv⟩ => ?_
  · intro i x hx
    match i, hx with
    | 0, hx => cases hx; exact t0
    | i + 1, hx => cases hx
  · have hb := VRep.toBool (b := true) hv
    subst he
    subst hb
    exact ⟨_, rfl, _, _, _, [], _, [], hW', trodAll_mk1 (shut_bool Tryz.underlying4 _), (trodAll_cons_mk (Below.trod laidOut (by kernel_rfl) (of_decide_eq_true (by kernel_rfl)) k0 bel lt0) trodAll_mk0), rfl, bel.frame _, fun h => by cases h⟩
theorem over : Rows.fnExactMuxFaultRow.holds Tryz.pinned (OpenSpec.ofChange Rows.fnExactMuxFaultSpec) :=
  OpenClaim.holds_of_wide 3 Tryz.f3 rfl rfl rfl rfl rfl rfl rfl ⟨rfl, rfl, rfl, rfl, rfl⟩ rfl rfl rfl rfl rfl (by kernel_rfl) Tryz.func3 (by kernel_rfl)
    (of_decide_eq_true (by kernel_rfl)) (by unfold Func.isWrapper; first | (rw [if_pos (by decide +kernel)]; kernel_rfl) | (rw [if_neg (by decide +kernel)]; exact ⟨rfl, rfl⟩))
    (fun os started H enc _ => lifted os started H enc)
theorem proved : Rows.FnExactMuxFaultSaid := over
#print axioms proved
end Go.Proofs.YtmgndndkkeinfaaGreat.fnExactMuxFault
namespace Go.Proofs.YtmgndndkkeinfaaGreat
/-- The row, under a short name, for the claim. -/
theorem fnExactMuxFault_holds : Rows.FnExactMuxFaultSaid := fnExactMuxFault.proved
end Go.Proofs.YtmgndndkkeinfaaGreat
