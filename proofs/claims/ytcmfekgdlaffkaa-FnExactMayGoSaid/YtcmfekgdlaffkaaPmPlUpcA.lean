/- Plain law of UpCmds. Conditions: none. -/
import Derived.Test.YtcmfekgdlaffkaaPmPlTool
namespace Go.Proofs.Ytcmfekgdlaffkaa.Pm
open Go Go.RowKit Go.Proofs Vm
set_option linter.unusedVariables false
set_option linter.unusedSimpArgs false
set_option maxRecDepth 100000

/-! ### Services -/
def Vips (n : Nat) (f : Nat → S_impl_Vip) : Prop := ∀ m, m < n → (f m).Names.n ≤ 1048576
/-! ### Copies -/
theorem tH_Int64S {fu : Nat} (hf : 2000000 ≤ fu) (x : Sl Int) (hx : x.n ≤ 1048576) : F_laws_toInt64S_H fu x = some (cp id 0 x) := by
  unfold F_laws_toInt64S_H
  have h1 : (8 : Int) * (x.n : Int) ≤ 281474976710656 := by omega
  have h2 : (x.n : Int) ≤ 9223372036854775807 := by omega
  simp only [h1, h2, decide_true, Bool.and_true, Int.toNat_natCast, Int.natCast_nonneg, cond_true]
  exact to_loop x.n x.f id 0 (fun w0 go0 => F_laws_toInt64S_H_B0 fu x x.n x.n (fun z => some (⟨none, x.n, z⟩ : Sl Int)) w0.1 w0.2 (fun q0 q1 => go0 (q0, q1))) (fun z => some (⟨none, x.n, z⟩ : Sl Int)) (fun i o go hi => by
    unfold F_laws_toInt64S_H_B0
    by_cases h : i < x.n
    · simp [h, wsucc (show i < 4611686018427387904 by omega)]
    · simp [h]) fu (by omega)
theorem tH_BackendS {fu : Nat} (hf : 2000000 ≤ fu) (x : Sl S_impl_Backend) (hx : x.n ≤ 1048576) : F_laws_toBackendS_H fu x = some (cp id d_Backend x) := by
  unfold F_laws_toBackendS_H
  have h1 : (40 : Int) * (x.n : Int) ≤ 281474976710656 := by omega
  have h2 : (x.n : Int) ≤ 9223372036854775807 := by omega
  simp only [h1, h2, decide_true, Bool.and_true, Int.toNat_natCast, Int.natCast_nonneg, cond_true]
  exact to_loop x.n x.f id d_Backend (fun w0 go0 => F_laws_toBackendS_H_B0 fu x x.n x.n (fun z => some (⟨none, x.n, z⟩ : Sl S_impl_Backend)) w0.1 w0.2 (fun q0 q1 => go0 (q0, q1))) (fun z => some (⟨none, x.n, z⟩ : Sl S_impl_Backend)) (fun i o go hi => by
    unfold F_laws_toBackendS_H_B0 F_laws_toBackend
    by_cases h : i < x.n
    · simp [h, wsucc (show i < 4611686018427387904 by omega)]
    · simp [h]) fu (by omega)
theorem tH_Vip {fu : Nat} (hf : 2000000 ≤ fu) (x : S_impl_Vip) (hx : x.Names.n ≤ 1048576) : F_laws_toVip_H fu x = some (toV x) := by
  unfold F_laws_toVip_H
  simp only [tH_Int64S hf x.Names hx, Option.bind_some]
  rfl
theorem tu_VipS {fu : Nat} (hf : 2000000 ≤ fu) (x : Sl S_impl_Vip) (hx : x.n ≤ 1048576) (he : ∀ i, i < x.n → (x.f i).Names.n ≤ 1048576) : F_laws_toVipS_U fu x = some (x.n, x.n, (cp toV d_Vip x).f) := by
  unfold F_laws_toVipS_U
  have h1 : (48 : Int) * (x.n : Int) ≤ 281474976710656 := by omega
  have h2 : (x.n : Int) ≤ 9223372036854775807 := by omega
  simp only [h1, h2, decide_true, Bool.and_true, Int.toNat_natCast, Int.natCast_nonneg, cond_true]
  refine stepL x.n (fun i => ((i : Int), i, fun j => if j < i then toV (x.f j) else d_Vip)) (by omega) rfl (fun i go hi => ?_) (fun go => ?_)
  · unfold F_laws_toVipS_U_B0
    simp only [Int.toNat_natCast, Int.natCast_nonneg, Int.ofNat_lt, hi, decide_true, Bool.and_self, cond_true, Option.bind_some, wsucc (show i < 4611686018427387904 by omega), tH_Vip hf (x.f i) (he i hi)]
    rw [← cp_succ]
    rfl
  · unfold F_laws_toVipS_U_B0
    simp only [Int.lt_irrefl, Nat.le_refl, decide_true, decide_false, cond_false, cond_true]
    rfl
theorem tu_Config {fu : Nat} (hf : 2000000 ≤ fu) (x : S_laws_Config) (hx : ConfLen' x) : F_laws_toConfig_U fu x = some (x.Version, x.Backends.n, x.Vips.n, x.Backends.n, (toConf x).Backends.f, x.Vips.n, (toConf x).Vips.f) := by
  unfold F_laws_toConfig_U
  simp only [tH_BackendS hf x.Backends hx.backends, tu_VipS hf x.Vips hx.vips hx.names, Option.bind_some, Nat.le_refl, decide_true, Bool.and_self, cond_true]
  rfl
end Go.Proofs.Ytcmfekgdlaffkaa.Pm
