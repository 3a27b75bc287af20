/- Plain laws of machines: copies, sizes, equality. Conditions: none. -/
import Derived.Test.YtcmfekgdlaffkaaPcPlConf
namespace Go.Proofs.Ytcmfekgdlaffkaa.Pc
open Go Go.RowKit Go.Proofs Vm
set_option linter.unusedVariables false
set_option linter.unusedSimpArgs false
set_option maxRecDepth 100000

/-! ### Copies -/

def d_Backend : S_impl_Backend := ⟨0, 0, 0, 0, false⟩
def d_Vip : S_impl_Vip := ⟨0, 0, 0, ⟨some true, 0, fun _ => dflt .i64⟩⟩
def toV (v : S_impl_Vip) : S_impl_Vip := ⟨v.Address, v.Port, v.Proto, cp id 0 v.Names⟩
/-! ### A thing is like itself -/

theorem e_Int64S {fu : Nat} (hf : 2000000 ≤ fu) (x : Sl Int) (hx : x.n ≤ 1048576) : F_laws_eqInt64S fu x x = some true := by
  unfold F_laws_eqInt64S
  simp only [bne_self_eq_false, cond_false]
  refine eqL x.n (by omega) (fun i go hi => ?_) (fun go => ?_)
  · unfold F_laws_eqInt64S_B0
    simp [hi, wsucc (show i < 4611686018427387904 by omega)]
  · unfold F_laws_eqInt64S_B0; simp
theorem e_BackendS {fu : Nat} (hf : 2000000 ≤ fu) (x : Sl S_impl_Backend) (hx : x.n ≤ 1048576) : F_laws_eqBackendS fu x x = some true := by
  unfold F_laws_eqBackendS
  simp only [bne_self_eq_false, cond_false]
  refine eqL x.n (by omega) (fun i go hi => ?_) (fun go => ?_)
  · unfold F_laws_eqBackendS_B0 F_laws_eqBackend
    simp [hi, wsucc (show i < 4611686018427387904 by omega)]
  · unfold F_laws_eqBackendS_B0; simp
theorem e_Vip {fu : Nat} (hf : 2000000 ≤ fu) (x : S_impl_Vip) (hx : x.Names.n ≤ 1048576) : F_laws_eqVip fu x x = some true := by
  unfold F_laws_eqVip
  simp [e_Int64S hf x.Names hx]
theorem e_VipS {fu : Nat} (hf : 2000000 ≤ fu) (x : Sl S_impl_Vip) (hx : x.n ≤ 1048576) (hn : ∀ i, i < x.n → (x.f i).Names.n ≤ 1048576) : F_laws_eqVipS fu x x = some true := by
  unfold F_laws_eqVipS
  simp only [bne_self_eq_false, cond_false]
  refine eqL x.n (by omega) (fun i go hi => ?_) (fun go => ?_)
  · unfold F_laws_eqVipS_B0
    simp [hi, wsucc (show i < 4611686018427387904 by omega), e_Vip hf (x.f i) (hn i hi)]
  · unfold F_laws_eqVipS_B0; simp
theorem e_Config {fu : Nat} (hf : 2000000 ≤ fu) (x : S_impl_Config) (hx : ConfLen x) : F_laws_eqConfig fu x x = some true := by
  unfold F_laws_eqConfig
  simp [e_BackendS hf x.Backends hx.backends, e_VipS hf x.Vips hx.vips hx.names]
/-! ### Sizes -/

/-! ### The same machine -/

def eqB (a b : S_impl_Backend) : Bool := (a.Name == b.Name) && ((a.Address == b.Address) && ((a.Weight == b.Weight) && ((a.Stage == b.Stage) && ((a.Up == b.Up) && true))))
def sameN (x y : Sl Int) : Bool := (x.n == y.n) && allb x.n (fun i => x.f i == y.f i)
def eqV (a b : S_impl_Vip) : Bool := ((a.Address == b.Address) && ((a.Port == b.Port) && (a.Proto == b.Proto))) && sameN a.Names b.Names
def sameB (x y : Sl S_impl_Backend) : Bool := (x.n == y.n) && allb x.n (fun i => eqB (x.f i) (y.f i))
def sameV (x y : Sl S_impl_Vip) : Bool := (x.n == y.n) && allb x.n (fun i => eqV (x.f i) (y.f i))
def sameC (a b : S_impl_Config) : Bool := (a.Version == b.Version) && (sameB a.Backends b.Backends && sameV a.Vips b.Vips)
end Go.Proofs.Ytcmfekgdlaffkaa.Pc
