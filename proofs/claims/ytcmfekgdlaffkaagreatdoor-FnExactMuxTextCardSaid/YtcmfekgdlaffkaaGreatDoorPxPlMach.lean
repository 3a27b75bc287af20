/- Plain laws of machines: copies, sizes, equality. Conditions: none. -/
import Derived.Test.YtcmfekgdlaffkaaGreatDoorPxPlConf
namespace Go.Proofs.YtcmfekgdlaffkaaGreatDoor.Px
open Go Go.RowKit Go.Proofs Vm
set_option linter.unusedVariables false
set_option linter.unusedSimpArgs false
set_option maxRecDepth 100000

/-! ### Copies -/

def d_Backend : S_impl_Backend := ⟨0, 0, 0, 0, false⟩
def d_Vip : S_impl_Vip := ⟨0, 0, 0, ⟨some true, 0, fun _ => dflt .i64⟩⟩
def toV (v : S_impl_Vip) : S_impl_Vip := ⟨v.Address, v.Port, v.Proto, cp id 0 v.Names⟩
def toConf (x : S_laws_Config) : S_impl_Config := ⟨x.Version, cp id d_Backend x.Backends, cp toV d_Vip x.Vips⟩
def toWatch (x : S_laws_Watch) : S_impl_Watch := ⟨x.Ready, toConf x.Config⟩
/-- A law's config whose lists are not long. -/
structure ConfLen' (x : S_laws_Config) : Prop where
  backends : x.Backends.n ≤ 1048576
  vips : x.Vips.n ≤ 1048576
  names : ∀ i, i < x.Vips.n → (x.Vips.f i).Names.n ≤ 1048576
theorem toConf_len {x : S_laws_Config} (h : ConfLen' x) : ConfLen (toConf x) := ⟨h.backends, h.vips, fun i hi => by
  have hi : i < x.Vips.n := hi
  show (if i < x.Vips.n then toV (x.Vips.f i) else d_Vip).Names.n ≤ 1048576
  rw [if_pos hi]
  exact h.names i hi⟩
theorem t_Int64S {fu : Nat} (hf : 2000000 ≤ fu) (x : Sl Int) (hx : x.n ≤ 1048576) : F_laws_toInt64S fu x = some (cp id 0 x) := by
  unfold F_laws_toInt64S
  have h1 : (8 : Int) * (x.n : Int) ≤ 281474976710656 := by omega
  have h2 : (x.n : Int) ≤ 9223372036854775807 := by omega
  simp only [h1, h2, decide_true, Bool.and_true, Int.toNat_natCast, Int.natCast_nonneg, cond_true]
  refine toL x id (by omega) (fun i o go hi => ?_)
  unfold F_laws_toInt64S_B0
  by_cases h : i < x.n
  · simp [h, wsucc (show i < 4611686018427387904 by omega)]
  · simp [h]
theorem t_BackendS {fu : Nat} (hf : 2000000 ≤ fu) (x : Sl S_impl_Backend) (hx : x.n ≤ 1048576) : F_laws_toBackendS fu x = some (cp id d_Backend x) := by
  unfold F_laws_toBackendS
  have h1 : (40 : Int) * (x.n : Int) ≤ 281474976710656 := by omega
  have h2 : (x.n : Int) ≤ 9223372036854775807 := by omega
  simp only [h1, h2, decide_true, Bool.and_true, Int.toNat_natCast, Int.natCast_nonneg, cond_true]
  refine toL x id (by omega) (fun i o go hi => ?_)
  unfold F_laws_toBackendS_B0 F_laws_toBackend
  by_cases h : i < x.n
  · simp [h, wsucc (show i < 4611686018427387904 by omega)]
  · simp [h]
theorem t_Vip {fu : Nat} (hf : 2000000 ≤ fu) (v : S_impl_Vip) (hx : v.Names.n ≤ 1048576) : F_laws_toVip fu v = some (toV v) := by
  unfold F_laws_toVip toV
  simp only [t_Int64S hf v.Names hx, Option.bind_some]
theorem t_VipS {fu : Nat} (hf : 2000000 ≤ fu) (x : Sl S_impl_Vip) (hx : x.n ≤ 1048576) (hn : ∀ i, i < x.n → (x.f i).Names.n ≤ 1048576) : F_laws_toVipS fu x = some (cp toV d_Vip x) := by
  unfold F_laws_toVipS
  have h1 : (48 : Int) * (x.n : Int) ≤ 281474976710656 := by omega
  have h2 : (x.n : Int) ≤ 9223372036854775807 := by omega
  simp only [h1, h2, decide_true, Bool.and_true, Int.toNat_natCast, Int.natCast_nonneg, cond_true]
  refine toL (d := d_Vip) x toV (by omega) (fun i o go hi => ?_)
  unfold F_laws_toVipS_B0
  by_cases h : i < x.n
  · simp [h, wsucc (show i < 4611686018427387904 by omega), t_Vip hf (x.f i) (hn i h)]
  · simp [h]
theorem t_Config {fu : Nat} (hf : 2000000 ≤ fu) (x : S_laws_Config) (hx : ConfLen' x) : F_laws_toConfig fu x = some (toConf x) := by
  unfold F_laws_toConfig toConf
  simp only [t_BackendS hf x.Backends hx.backends, t_VipS hf x.Vips hx.vips hx.names, Option.bind_some]
theorem t_Watch {fu : Nat} (hf : 2000000 ≤ fu) (x : S_laws_Watch) (hx : ConfLen' x.Config) : F_laws_toWatch fu x = some (toWatch x) := by
  unfold F_laws_toWatch toWatch
  simp only [t_Config hf x.Config hx, Option.bind_some]

/-! ### A thing is like itself -/

theorem e_Int64S {fu : Nat} (hf : 2000000 ≤ fu) (x : Sl Int) (hx : x.n ≤ 1048576) : F_laws_eqInt64S fu x x = some true := by
  unfold F_laws_eqInt64S
  simp only [bne_self_eq_false, cond_false]
  refine eqL x.n (by omega) (fun i go hi => ?_) (fun go => ?_)
  · unfold F_laws_eqInt64S_B0
    simp [hi, wsucc (show i < 4611686018427387904 by omega)]
  · unfold F_laws_eqInt64S_B0; simp
theorem e_BackendS {fu : Nat} (hf : 2000000 ≤ fu) (x : Sl S_impl_Backend) (hx : x.n ≤ 1048576) : F_laws_eqBackendS fu x x = some true := by
  unfold F_laws_eqBackendS
  simp only [bne_self_eq_false, cond_false]
  refine eqL x.n (by omega) (fun i go hi => ?_) (fun go => ?_)
  · unfold F_laws_eqBackendS_B0 F_laws_eqBackend
    simp [hi, wsucc (show i < 4611686018427387904 by omega)]
  · unfold F_laws_eqBackendS_B0; simp
theorem e_Vip {fu : Nat} (hf : 2000000 ≤ fu) (x : S_impl_Vip) (hx : x.Names.n ≤ 1048576) : F_laws_eqVip fu x x = some true := by
  unfold F_laws_eqVip
  simp [e_Int64S hf x.Names hx]
theorem e_VipS {fu : Nat} (hf : 2000000 ≤ fu) (x : Sl S_impl_Vip) (hx : x.n ≤ 1048576) (hn : ∀ i, i < x.n → (x.f i).Names.n ≤ 1048576) : F_laws_eqVipS fu x x = some true := by
  unfold F_laws_eqVipS
  simp only [bne_self_eq_false, cond_false]
  refine eqL x.n (by omega) (fun i go hi => ?_) (fun go => ?_)
  · unfold F_laws_eqVipS_B0
    simp [hi, wsucc (show i < 4611686018427387904 by omega), e_Vip hf (x.f i) (hn i hi)]
  · unfold F_laws_eqVipS_B0; simp
theorem e_Config {fu : Nat} (hf : 2000000 ≤ fu) (x : S_impl_Config) (hx : ConfLen x) : F_laws_eqConfig fu x x = some true := by
  unfold F_laws_eqConfig
  simp [e_BackendS hf x.Backends hx.backends, e_VipS hf x.Vips hx.vips hx.names]
theorem e_Watch {fu : Nat} (hf : 2000000 ≤ fu) (x : S_impl_Watch) (hx : ConfLen x.Config) : F_laws_eqWatch fu x x = some true := by
  unfold F_laws_eqWatch
  simp [e_Config hf x.Config hx]

/-! ### Sizes -/

theorem sz_Int64S (fu : Nat) (x : Sl Int) (left : Int) : F_laws_szInt64S fu x left = some (szf left x.n) := by
  unfold F_laws_szInt64S szf
  by_cases h : IntKind.wrap .i64 (left - (x.n : Int)) < 0 <;> simp [h]
theorem sz_BackendS (fu : Nat) (x : Sl S_impl_Backend) (left : Int) : F_laws_szBackendS fu x left = some (szf left x.n) := by
  unfold F_laws_szBackendS szf
  by_cases h : IntKind.wrap .i64 (left - (x.n : Int)) < 0 <;> simp [h]
theorem sz_Vip (fu : Nat) (x : S_impl_Vip) (hw : W_impl_Vip x) {left : Int} (h0 : 0 ≤ left) (h1 : left ≤ 1048576) : ∃ y, F_laws_szVip fu x left = some y ∧ Szd left y (x.Names.n ≤ 1048576) := by
  obtain ⟨_, _, _, w⟩ := hw
  unfold F_laws_szVip
  rw [sz_Int64S]
  simp only [Option.bind_some]
  rcases (sz_one h0 h1 w.1).neg with a | ⟨a1, a2, a3⟩
  · exact ⟨-1, by simp [a], ⟨.inl (by omega)⟩⟩
  · exact ⟨szf left x.Names.n, by simp only [show ¬ szf left x.Names.n < 0 by omega, decide_false, cond_false], ⟨.inr ⟨a1, a2, a3⟩⟩⟩
theorem sz_VipS {fu : Nat} (hf : 2000000 ≤ fu) (x : Sl S_impl_Vip) (hw : W_sl_impl_Vip x) {left : Int} (h0 : 0 ≤ left) (h1 : left ≤ 1048576) : ∃ y, F_laws_szVipS fu x left = some y ∧ Szd left y (x.n ≤ 1048576 ∧ ∀ i, i < x.n → (x.f i).Names.n ≤ 1048576) := by
  unfold F_laws_szVipS
  have e : ∀ (k : Option Int), (bif (decide ((IntKind.wrap .i64 (left - ((x.n : Nat) : Int))) < 0)) then (some (-1)) else k) = (bif decide (szf left x.n < 0) then some (-1) else k) := by
    intro k
    unfold szf
    by_cases h : IntKind.wrap .i64 (left - (x.n : Int)) < 0 <;> simp [h]
  rw [e]
  rcases (sz_one h0 h1 hw.1).neg with a | ⟨a1, a2, a3⟩
  · exact ⟨-1, by simp [a], ⟨.inl (by omega)⟩⟩
  · have e2 : IntKind.wrap .i64 (left - ((x.n : Nat) : Int)) = szf left x.n := by
      unfold szf at a1 ⊢
      by_cases h : IntKind.wrap .i64 (left - (x.n : Int)) < 0
      · simp [h] at a1
      · simp [h]
    rw [e2]
    simp only [show ¬ szf left x.n < 0 by omega, decide_false, cond_false]
    rcases sz_loop (ρ := Int) x.n (fun w0 go0 => F_laws_szVipS_B0 fu x (fun z333 => (some (-1))) (fun z334 => (some z334)) w0.1 w0.2 (fun q0 q1 => go0 (q0, q1))) (fun i => (x.f i).Names.n ≤ 1048576) (fun _ => some (-1)) (fun l => some l)
      (fun i l go hi hl hl' => by
        obtain ⟨y, hy, hs⟩ := sz_Vip fu (x.f i) (hw.2 i hi) hl hl'
        refine ⟨y, hs, ?_⟩
        unfold F_laws_szVipS_B0
        simp only [Int.toNat_natCast, Int.natCast_nonneg, Int.ofNat_lt, hi, decide_true, Bool.and_self, cond_true, Option.bind_some, hy, wsucc (show i < 4611686018427387904 by omega)])
      (fun l go => by unfold F_laws_szVipS_B0; simp) x.n 0 (szf left x.n) fu (by omega) (by omega) a1 (by omega) with ⟨y, hy, he⟩ | ⟨y, hy, hyl, hall, he⟩
    · exact ⟨-1, he, ⟨.inl (by omega)⟩⟩
    · exact ⟨y, he, ⟨.inr ⟨hy, by omega, a3, fun i hi => hall i (by omega) (by omega)⟩⟩⟩
theorem sz_Config {fu : Nat} (hf : 2000000 ≤ fu) (x : S_laws_Config) (hw : W_laws_Config x) {left : Int} (h0 : 0 ≤ left) (h1 : left ≤ 1048576) : ∃ y, F_laws_szConfig fu x left = some y ∧ Szd left y (ConfLen' x) := by
  obtain ⟨_, w1, w2⟩ := hw
  unfold F_laws_szConfig
  rw [sz_BackendS]
  simp only [Option.bind_some]
  rcases (sz_one h0 h1 w1.1).neg with a | ⟨a1, a2, a3⟩
  · exact ⟨-1, by simp [a], ⟨.inl (by omega)⟩⟩
  · simp only [show ¬ szf left x.Backends.n < 0 by omega, decide_false, cond_false]
    obtain ⟨y, hy, hs⟩ := sz_VipS hf x.Vips w2 (left := szf left x.Backends.n) a1 (by omega)
    rw [hy]
    simp only [Option.bind_some]
    rcases hs.neg with b | ⟨b1, b2, b3, b4⟩
    · exact ⟨-1, by simp [b], ⟨.inl (by omega)⟩⟩
    · exact ⟨y, by simp only [show ¬ y < 0 by omega, decide_false, cond_false], ⟨.inr ⟨b1, by omega, ⟨a3, b3, b4⟩⟩⟩⟩
/-! ### The same machine -/

def eqB (a b : S_impl_Backend) : Bool := (a.Name == b.Name) && ((a.Address == b.Address) && ((a.Weight == b.Weight) && ((a.Stage == b.Stage) && ((a.Up == b.Up) && true))))
def sameN (x y : Sl Int) : Bool := (x.n == y.n) && allb x.n (fun i => x.f i == y.f i)
def eqV (a b : S_impl_Vip) : Bool := ((a.Address == b.Address) && ((a.Port == b.Port) && (a.Proto == b.Proto))) && sameN a.Names b.Names
def sameB (x y : Sl S_impl_Backend) : Bool := (x.n == y.n) && allb x.n (fun i => eqB (x.f i) (y.f i))
def sameV (x y : Sl S_impl_Vip) : Bool := (x.n == y.n) && allb x.n (fun i => eqV (x.f i) (y.f i))
def sameC (a b : S_impl_Config) : Bool := (a.Version == b.Version) && (sameB a.Backends b.Backends && sameV a.Vips b.Vips)
theorem s_Nums {fu : Nat} (hf : 2000000 ≤ fu) (x y : Sl Int) (hx : x.n ≤ 1048576) : F_spec_l5Nums fu x y = some (sameN x y) := by
  unfold F_spec_l5Nums sameN
  rw [n_ne]
  by_cases h : x.n = y.n
  · simp only [h, beq_self_eq_true, Bool.not_true, cond_false, Bool.true_and]
    refine allL y.n (fun i => x.f i == y.f i) (some false) (some true) (by omega) (fun i go hi => ?_) (fun go => ?_) (by cases allb y.n (fun i => x.f i == y.f i) <;> rfl)
    · unfold F_spec_l5Nums_B0
      simp only [Int.toNat_natCast, Int.natCast_nonneg, Int.ofNat_lt, h, hi, decide_true, Bool.and_self, cond_true, Option.bind_some, wsucc (show i < 4611686018427387904 by omega), bne]
      cases (x.f i == y.f i) <;> rfl
    · unfold F_spec_l5Nums_B0; simp [h]
  · rw [beq_eq_false_iff_ne.2 h]; rfl
theorem i_EqualN {fu : Nat} (hf : 2000000 ≤ fu) (x y : Sl Int) (hx : x.n ≤ 1048576) : F_slices_Equal_int64_int64 fu x y = some (sameN x y) := by
  unfold F_slices_Equal_int64_int64 sameN
  rw [n_ne]
  by_cases h : x.n = y.n
  · simp only [h, beq_self_eq_true, Bool.not_true, cond_false, Bool.true_and]
    refine allL y.n (fun i => x.f i == y.f i) (some false) (some true) (by omega) (fun i go hi => ?_) (fun go => ?_) (by cases allb y.n (fun i => x.f i == y.f i) <;> rfl)
    · unfold F_slices_Equal_int64_int64_B0
      simp only [Int.toNat_natCast, Int.natCast_nonneg, Int.ofNat_lt, h, hi, decide_true, Bool.and_self, cond_true, Option.bind_some, wsucc (show i < 4611686018427387904 by omega), bne]
      cases (x.f i == y.f i) <;> rfl
    · unfold F_slices_Equal_int64_int64_B0; simp
  · rw [beq_eq_false_iff_ne.2 h]; rfl
end Go.Proofs.YtcmfekgdlaffkaaGreatDoor.Px
