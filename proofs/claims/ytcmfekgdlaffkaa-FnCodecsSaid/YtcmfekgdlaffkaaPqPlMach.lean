/- Plain laws of machines: copies, sizes, equality. Conditions: none. -/
import Derived.Test.YtcmfekgdlaffkaaPqPlConf
namespace Go.Proofs.Ytcmfekgdlaffkaa.Pq
open Go Go.RowKit Go.Proofs Vm
set_option linter.unusedVariables false
set_option linter.unusedSimpArgs false
set_option maxRecDepth 100000
def d_Backend : S_impl_Backend := ⟨0, 0, 0, 0, false⟩
def d_Vip : S_impl_Vip := ⟨0, 0, 0, ⟨some true, 0, fun _ => dflt .i64⟩⟩
def toV (v : S_impl_Vip) : S_impl_Vip := ⟨v.Address, v.Port, v.Proto, cp id 0 v.Names⟩
def eqB (a b : S_impl_Backend) : Bool := (a.Name == b.Name) && ((a.Address == b.Address) && ((a.Weight == b.Weight) && ((a.Stage == b.Stage) && ((a.Up == b.Up) && true))))
def sameN (x y : Sl Int) : Bool := (x.n == y.n) && allb x.n (fun i => x.f i == y.f i)
def eqV (a b : S_impl_Vip) : Bool := ((a.Address == b.Address) && ((a.Port == b.Port) && (a.Proto == b.Proto))) && sameN a.Names b.Names
def sameB (x y : Sl S_impl_Backend) : Bool := (x.n == y.n) && allb x.n (fun i => eqB (x.f i) (y.f i))
def sameV (x y : Sl S_impl_Vip) : Bool := (x.n == y.n) && allb x.n (fun i => eqV (x.f i) (y.f i))
def sameC (a b : S_impl_Config) : Bool := (a.Version == b.Version) && (sameB a.Backends b.Backends && sameV a.Vips b.Vips)
theorem i_EqualN {fu : Nat} (hf : 2000000 ≤ fu) (x y : Sl Int) (hx : x.n ≤ 1048576) : F_slices_Equal_int64_int64 fu x y = some (sameN x y) := by
  unfold F_slices_Equal_int64_int64 sameN
  rw [n_ne]
  by_cases h : x.n = y.n
  · simp only [h, beq_self_eq_true, Bool.not_true, cond_false, Bool.true_and]
    refine allL y.n (fun i => x.f i == y.f i) (some false) (some true) (by omega) (fun i go hi => ?_) (fun go => ?_) (by cases allb y.n (fun i => x.f i == y.f i) <;> rfl)
    · unfold F_slices_Equal_int64_int64_B0
      simp only [Int.toNat_natCast, Int.natCast_nonneg, Int.ofNat_lt, h, hi, decide_true, Bool.and_self, cond_true, Option.bind_some, wsucc (show i < 4611686018427387904 by omega), bne]
      cases (x.f i == y.f i) <;> rfl
    · unfold F_slices_Equal_int64_int64_B0; simp
  · rw [beq_eq_false_iff_ne.2 h]; rfl
theorem i_EqualB {fu : Nat} (hf : 2000000 ≤ fu) (x y : Sl S_impl_Backend) (hx : x.n ≤ 1048576) : F_slices_Equal_impl_Backend_impl_Backend fu x y = some (sameB x y) := by
  unfold F_slices_Equal_impl_Backend_impl_Backend sameB
  rw [n_ne]
  by_cases h : x.n = y.n
  · simp only [h, beq_self_eq_true, Bool.not_true, cond_false, Bool.true_and]
    refine allL y.n (fun i => eqB (x.f i) (y.f i)) (some false) (some true) (by omega) (fun i go hi => ?_) (fun go => ?_) (by cases allb y.n (fun i => eqB (x.f i) (y.f i)) <;> rfl)
    · unfold F_slices_Equal_impl_Backend_impl_Backend_B0
      simp only [Int.toNat_natCast, Int.natCast_nonneg, Int.ofNat_lt, h, hi, decide_true, Bool.and_self, cond_true, Option.bind_some, wsucc (show i < 4611686018427387904 by omega)]
      show (bif (!eqB (x.f i) (y.f i)) then some false else go ((i + 1 : Nat) : Int)) = _
      cases eqB (x.f i) (y.f i) <;> rfl
    · unfold F_slices_Equal_impl_Backend_impl_Backend_B0; simp
  · rw [beq_eq_false_iff_ne.2 h]; rfl
theorem i_sameVip {fu : Nat} (hf : 2000000 ≤ fu) (a b : S_impl_Vip) (hx : a.Names.n ≤ 1048576) : F_impl_sameVip fu a b = some (eqV a b) := by
  unfold F_impl_sameVip eqV
  simp only [i_compareVip hf, i_EqualN hf a.Names b.Names hx, Option.bind_some, cmp_same]
  cases ((a.Address == b.Address) && ((a.Port == b.Port) && (a.Proto == b.Proto))) <;> rfl
theorem i_EqualV {fu : Nat} (hf : 2000000 ≤ fu) (x y : Sl S_impl_Vip) (hx : x.n ≤ 1048576) (hn : ∀ i, i < x.n → (x.f i).Names.n ≤ 1048576) : F_slices_EqualFunc_impl_Vip_impl_Vip_impl_Vip_impl_Vip_w_impl_sameVip fu x y = some (sameV x y) := by
  unfold F_slices_EqualFunc_impl_Vip_impl_Vip_impl_Vip_impl_Vip_w_impl_sameVip sameV
  rw [n_ne]
  by_cases h : x.n = y.n
  · simp only [h, beq_self_eq_true, Bool.not_true, cond_false, Bool.true_and]
    refine allL y.n (fun i => eqV (x.f i) (y.f i)) (some false) (some true) (by omega) (fun i go hi => ?_) (fun go => ?_) (by cases allb y.n (fun i => eqV (x.f i) (y.f i)) <;> rfl)
    · unfold F_slices_EqualFunc_impl_Vip_impl_Vip_impl_Vip_impl_Vip_w_impl_sameVip_B0
      simp only [Int.toNat_natCast, Int.natCast_nonneg, Int.ofNat_lt, h, hi, decide_true, Bool.and_self, cond_true, Option.bind_some, wsucc (show i < 4611686018427387904 by omega), i_sameVip hf (x.f i) (y.f i) (hn i (by omega))]
      cases eqV (x.f i) (y.f i) <;> rfl
    · unfold F_slices_EqualFunc_impl_Vip_impl_Vip_impl_Vip_impl_Vip_w_impl_sameVip_B0; simp
  · rw [beq_eq_false_iff_ne.2 h]; rfl
theorem i_sameConfigs {fu : Nat} (hf : 2000000 ≤ fu) (a b : S_impl_Config) (ha : ConfLen a) : F_impl_sameConfigs fu a b = some (sameC a b) := by
  unfold F_impl_sameConfigs sameC
  simp only [i_EqualB hf a.Backends b.Backends ha.backends, i_EqualV hf a.Vips b.Vips ha.vips ha.names, Option.bind_some]
  cases (a.Version == b.Version) <;> cases sameB a.Backends b.Backends <;> rfl
end Go.Proofs.Ytcmfekgdlaffkaa.Pq
