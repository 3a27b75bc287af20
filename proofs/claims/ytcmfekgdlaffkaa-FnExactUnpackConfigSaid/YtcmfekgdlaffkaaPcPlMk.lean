/- Marks and what holds them: configs, updates. Conditions: none. -/
import Derived.Test.YtcmfekgdlaffkaaPcPlUpcA
namespace Go.Proofs.Ytcmfekgdlaffkaa.Pc
open Go Go.RowKit Go.Proofs Vm
set_option linter.unusedVariables false
set_option linter.unusedSimpArgs false
set_option maxRecDepth 100000

theorem x_Int64S {fu : Nat} (hf : 2000000 ≤ fu) (n : Nat) (k : Int) (rn : Nat) (f : Nat → Int) (hn : n ≤ 1048576) (h0 : 0 ≤ k) (h1 : k ≤ 9000000000000000000) : F_laws_markInt64S_U fu n k rn f = some (k + 1 * n, (rn, marks id 1 k n f)) := by
  unfold F_laws_markInt64S_U
  refine stepL n (fun i => (k + 1 * i, (i : Int), marks id 1 k i f)) (by omega) ?_ (fun i go hi => ?_) (fun go => ?_)
  · have : marks id 1 k 0 f = f := by funext j; simp [marks]
    simp [this]
  · unfold F_laws_markInt64S_U_B0
    simp only [Int.toNat_natCast, Int.natCast_nonneg, Int.ofNat_lt, hi, decide_true, Bool.and_self, cond_true, Option.bind_some, wsucc (show i < 4611686018427387904 by omega)]
    simp (disch := omega) only [Vm.wrap64]
    have e := marks_succ id 1 k i f
    rw [← e, show k + 1 * (i : Int) + 1 = k + 1 * ((i + 1 : Nat) : Int) by omega]
    rfl
  · unfold F_laws_markInt64S_U_B0
    simp
theorem y_Int64S {fu : Nat} (hf : 2000000 ≤ fu) (x : Sl Int) (k : Int) (hn : x.n ≤ 1048576) (h0 : 0 ≤ k) (h1 : k ≤ 9000000000000000000) (hx : ∀ i, i < x.n → x.f i = id (k + 1 * i)) : F_laws_heldInt64S fu x k = some (k + 1 * x.n) := by
  unfold F_laws_heldInt64S
  refine stepL x.n (fun i => (k + 1 * i, (i : Int))) (by omega) (by simp) (fun i go hi => ?_) (fun go => ?_)
  · unfold F_laws_heldInt64S_B0
    simp only [Int.toNat_natCast, Int.natCast_nonneg, Int.ofNat_lt, hi, decide_true, Bool.and_self, cond_true, Option.bind_some, wsucc (show i < 4611686018427387904 by omega), hx i hi, id]
    simp (disch := omega) only [Vm.wrap64]
    simp only [bne_self_eq_false, cond_false]
    rw [show k + 1 * (i : Int) + 1 = k + 1 * ((i + 1 : Nat) : Int) by omega]
  · unfold F_laws_heldInt64S_B0
    simp
def mkB (k : Int) : S_impl_Backend := ⟨k, k + 1, k + 1 + 1, k + 1 + 1 + 1, Int.tmod (k + 1 + 1 + 1 + 1) 3 == 0⟩
theorem x_BackendS {fu : Nat} (hf : 2000000 ≤ fu) (n : Nat) (k : Int) (rn : Nat) (f : Nat → S_impl_Backend) (hn : n ≤ 1048576) (h0 : 0 ≤ k) (h1 : k ≤ 9000000000000000000) : F_laws_markBackendS_U fu n k rn f = some (k + 5 * n, (rn, marks mkB 5 k n f)) := by
  unfold F_laws_markBackendS_U
  refine stepL n (fun i => (k + 5 * i, (i : Int), marks mkB 5 k i f)) (by omega) ?_ (fun i go hi => ?_) (fun go => ?_)
  · have : marks mkB 5 k 0 f = f := by funext j; simp [marks]
    simp [this]
  · unfold F_laws_markBackendS_U_B0
    simp only [Int.toNat_natCast, Int.natCast_nonneg, Int.ofNat_lt, hi, decide_true, Bool.and_self, cond_true, Option.bind_some, wsucc (show i < 4611686018427387904 by omega)]
    simp (disch := omega) only [Vm.wrap64]
    have e : (upd_impl_Backend_4_1 ((upd_impl_Backend_3_1 ((upd_impl_Backend_2_1 ((upd_impl_Backend_1_1 ((upd_impl_Backend_0_1 (marks mkB 5 k i f) i (k + 5 * (i : Int)))) i (k + 5 * (i : Int) + 1))) i (k + 5 * (i : Int) + 1 + 1))) i (k + 5 * (i : Int) + 1 + 1 + 1))) i (Int.tmod (k + 5 * (i : Int) + 1 + 1 + 1 + 1) 3 == 0)) = marks mkB 5 k (i + 1) f := by
      rw [← marks_succ]
      funext j
      simp only [upd_impl_Backend_0_1, upd_impl_Backend_1_1, upd_impl_Backend_2_1, upd_impl_Backend_3_1, upd_impl_Backend_4_1, mkB]
      by_cases hj : j = i
      · subst hj; simp only [if_true]
      · simp only [hj, if_false]
    rw [e, show k + 5 * (i : Int) + 1 + 1 + 1 + 1 + 1 = k + 5 * ((i + 1 : Nat) : Int) by omega]
  · unfold F_laws_markBackendS_U_B0
    simp
theorem y_BackendS {fu : Nat} (hf : 2000000 ≤ fu) (x : Sl S_impl_Backend) (k : Int) (hn : x.n ≤ 1048576) (h0 : 0 ≤ k) (h1 : k ≤ 9000000000000000000) (hx : ∀ i, i < x.n → x.f i = mkB (k + 5 * i)) : F_laws_heldBackendS fu x k = some (k + 5 * x.n) := by
  unfold F_laws_heldBackendS
  refine stepL x.n (fun i => (k + 5 * i, (i : Int))) (by omega) (by simp) (fun i go hi => ?_) (fun go => ?_)
  · unfold F_laws_heldBackendS_B0
    simp only [Int.toNat_natCast, Int.natCast_nonneg, Int.ofNat_lt, hi, decide_true, Bool.and_self, cond_true, Option.bind_some, wsucc (show i < 4611686018427387904 by omega), hx i hi, mkB]
    simp (disch := omega) only [Vm.wrap64]
    simp only [bne_self_eq_false, cond_false, beq_self_eq_true, Bool.not_true]
    rw [show k + 5 * (i : Int) + 1 + 1 + 1 + 1 + 1 = k + 5 * ((i + 1 : Nat) : Int) by omega]
  · unfold F_laws_heldBackendS_B0
    simp
/-! ### Services: each as long as its names -/
def kV (f : Nat → S_impl_Vip) (k : Int) : Nat → Int
  | 0 => k
  | i + 1 => kV f k i + 1 + 1 + 1 + 1 * ((f i).Names.n : Int)
def mkV (v : S_impl_Vip) (k : Int) : S_impl_Vip := ⟨k, k + 1, k + 1 + 1, ⟨none, v.Names.n, marks id 1 (k + 1 + 1 + 1) v.Names.n v.Names.f⟩⟩
def gV (f : Nat → S_impl_Vip) (k : Int) (i : Nat) : Nat → S_impl_Vip := fun j => if j < i then mkV (f j) (kV f k j) else f j
theorem kV_bound {n : Nat} {f : Nat → S_impl_Vip} {k : Int} (hI : Vips n f) : ∀ i, i ≤ n → k ≤ kV f k i ∧ kV f k i ≤ k + 1048579 * i
  | 0, _ => ⟨Int.le_refl _, by simp [kV]⟩
  | i + 1, h => by
    obtain ⟨a, b⟩ := kV_bound (k := k) hI i (by omega)
    have := hI i (by omega)
    unfold kV
    constructor <;> omega
theorem gV_succ (f : Nat → S_impl_Vip) (k : Int) (i : Nat) : upd_impl_Vip_3_1 (upd_impl_Vip_2_1 (upd_impl_Vip_1_1 (upd_impl_Vip_0_1 (gV f k i) i (kV f k i)) i (kV f k i + 1)) i (kV f k i + 1 + 1)) i ⟨none, (f i).Names.n, marks id 1 (kV f k i + 1 + 1 + 1) (f i).Names.n (f i).Names.f⟩ = gV f k (i + 1) := by
  funext j
  simp only [upd_impl_Vip_0_1, upd_impl_Vip_1_1, upd_impl_Vip_2_1, upd_impl_Vip_3_1]
  by_cases hj : j = i
  · subst hj
    have h1 : ¬ j < j := by omega
    have h2 : j < j + 1 := by omega
    simp only [gV, h1, h2, if_true, if_false, mkV]
  · by_cases h2 : j < i
    · have h3 : j < i + 1 := by omega
      simp only [gV, hj, h2, h3, if_true, if_false]
    · have h3 : ¬ j < i + 1 := by omega
      simp only [gV, hj, h2, h3, if_false]
theorem x_VipS {fu : Nat} (hf : 2000000 ≤ fu) (n : Nat) (k : Int) (f : Nat → S_impl_Vip) (hn : n ≤ 1048576) (h0 : 0 ≤ k) (h1 : k ≤ 8000000000000000000) (hI : Vips n f) : F_laws_markVipS_U fu n k n n f = some (kV f k n, n, n, gV f k n) := by
  unfold F_laws_markVipS_U
  refine stepL n (fun i => (kV f k i, (i : Int), gV f k i)) (by omega) ?_ (fun i go hi => ?_) (fun go => ?_)
  · have : gV f k 0 = f := by funext j; simp [gV]
    simp [this, kV]
  · obtain ⟨b0, b1⟩ := kV_bound (k := k) hI i (by omega)
    have hl := hI i hi
    have hg : gV f k i i = f i := by simp [gV]
    unfold F_laws_markVipS_U_B0
    simp only [Int.toNat_natCast, Int.natCast_nonneg, Int.ofNat_lt, hi, decide_true, Bool.and_self, Bool.and_true, cond_true, Option.bind_some, wsucc (show i < 4611686018427387904 by omega)]
    simp (disch := omega) only [Vm.wrap64]
    have e0 : (upd_impl_Vip_2_1 (upd_impl_Vip_1_1 (upd_impl_Vip_0_1 (gV f k i) i (kV f k i)) i (kV f k i + 1)) i (kV f k i + 1 + 1)) i = ⟨kV f k i, kV f k i + 1, kV f k i + 1 + 1, (f i).Names⟩ := by
      simp only [upd_impl_Vip_0_1, upd_impl_Vip_1_1, upd_impl_Vip_2_1, upd_impl_Vip_3_1, if_true, hg]
    rw [e0, x_Int64S hf _ _ _ _ hl (by omega) (by omega)]
    simp only [Option.bind_some]
    have e := gV_succ f k i
    rw [e]
    rfl
  · unfold F_laws_markVipS_U_B0
    simp only [Int.lt_irrefl, decide_false, cond_false]
theorem y_VipS {fu : Nat} (hf : 2000000 ≤ fu) (n : Nat) (k : Int) (f : Nat → S_impl_Vip) (hn : n ≤ 1048576) (h0 : 0 ≤ k) (h1 : k ≤ 8000000000000000000) (hI : Vips n f) (z : Option Bool) : F_laws_heldVipS fu ⟨z, n, gV f k n⟩ k = some (kV f k n) := by
  unfold F_laws_heldVipS
  refine stepL n (fun i => (kV f k i, (i : Int))) (by omega) rfl (fun i go hi => ?_) (fun go => ?_)
  · obtain ⟨b0, b1⟩ := kV_bound (k := k) hI i (by omega)
    have hl := hI i hi
    have hg : gV f k n i = mkV (f i) (kV f k i) := by simp [gV, hi]
    unfold F_laws_heldVipS_B0
    simp only [Int.toNat_natCast, Int.natCast_nonneg, Int.ofNat_lt, hi, decide_true, Bool.and_self, cond_true, Option.bind_some, wsucc (show i < 4611686018427387904 by omega), hg, mkV]
    simp (disch := omega) only [Vm.wrap64]
    simp only [bne_self_eq_false, cond_false]
    rw [y_Int64S hf _ _ (by exact hl) (by omega) (by omega) (fun j hj => marks_at hj)]
    simp only [Option.bind_some]
    rw [show decide (kV f k i + 1 + 1 + 1 + 1 * (((f i).Names.n : Nat) : Int) < 0) = false from decide_eq_false (by omega)]
    rfl
  · unfold F_laws_heldVipS_B0
    simp only [Int.lt_irrefl, decide_false, cond_false]

/-! ### Updates -/
/-! ### What is alike is equal -/
theorem q_VipS {fu : Nat} (hf : 2000000 ≤ fu) (x y : Sl S_impl_Vip) (hx : x.n ≤ 1048576) (hI : Vips x.n x.f) (hn : x.n = y.n) (h : ∀ i, i < x.n → x.f i = y.f i) : F_laws_eqVipS fu x y = some true := by
  unfold F_laws_eqVipS
  have hb : ((((x.n : Nat) : Int) != ((y.n : Nat) : Int))) = false := by rw [hn]; simp
  simp only [hb, cond_false]
  refine eqL x.n (by omega) (fun i go hi => ?_) (fun go => ?_)
  · unfold F_laws_eqVipS_B0
    have hy : i < y.n := hn ▸ hi
    simp [hi, hy, ← hn, ← h i hi, wsucc (show i < 4611686018427387904 by omega), e_Vip hf (x.f i) (hI i hi)]
  · unfold F_laws_eqVipS_B0; simp
/-! ### Copies -/
def copyV (v : S_impl_Vip) : S_impl_Vip := ⟨v.Address, v.Port, v.Proto, ⟨none, v.Names.n, v.Names.f⟩⟩
def copyS (f : Nat → S_impl_Vip) : Nat → Nat → S_impl_Vip
  | 0 => fun _ => dflt .impl_Vip
  | i + 1 => fun j => if j < i then copyS f i j else copyV (f i)
theorem copyS_at (f : Nat → S_impl_Vip) : ∀ i j, j < i → copyS f i j = copyV (f j)
  | 0, j, h => absurd h (Nat.not_lt_zero _)
  | i + 1, j, h => by
    unfold copyS
    by_cases h1 : j < i
    · simp only [h1, if_true]; exact copyS_at f i j h1
    · have : j = i := by omega
      subst this
      simp only [h1, if_false]
def copyI (f : Nat → S_impl_Vip) (i : Nat) : Nat → S_impl_Vip := fun j => if j < i then copyV (f j) else f j
theorem copyI_succ (f : Nat → S_impl_Vip) (i : Nat) : upd_impl_Vip_3_1 (copyI f i) i ⟨none, (f i).Names.n, (f i).Names.f⟩ = copyI f (i + 1) := by
  funext j
  unfold upd_impl_Vip_3_1
  by_cases hj : j = i
  · subst hj
    have h1 : ¬ j < j := by omega
    have h2 : j < j + 1 := by omega
    simp only [copyI, h1, h2, if_true, if_false, copyV]
  · by_cases h2 : j < i
    · have h3 : j < i + 1 := by omega
      simp only [copyI, hj, h2, h3, if_true, if_false]
    · have h3 : ¬ j < i + 1 := by omega
      simp only [copyI, hj, h2, h3, if_false]
theorem copy_same (f : Nat → S_impl_Vip) (n i : Nat) (h : i < n) : copyI f n i = copyS f n i := by
  rw [copyS_at f n i h]
  simp [copyI, h]
theorem copy_vips {n : Nat} {f : Nat → S_impl_Vip} (h : Vips n f) : Vips n (copyI f n) := fun m hm => by
  simp only [copyI, hm, if_true, copyV]
  exact h m hm

end Go.Proofs.Ytcmfekgdlaffkaa.Pc
