/- Plain laws of the audit: logs that match. Conditions: none. -/
import Derived.Test.YtnfippmeficfjaaPcPlAudit
namespace Go.Proofs.Ytnfippmeficfjaa.Pc
open Go Go.RowKit Go.Proofs Vm
set_option linter.unusedVariables false
set_option linter.unusedSimpArgs false
set_option maxRecDepth 100000

theorem common_le (x y : Sl S_impl_Entry) : common x y ≤ min x.n y.n := by
  unfold common
  cases h : scan (comAt x y) (min x.n y.n) 0 with
  | none => exact Nat.le_refl _
  | some j =>
    obtain ⟨i, _, hi, e⟩ := scan_some h
    unfold comAt at e
    cases hb : eqE (x.f i) (y.f i) with
    | true => rw [hb] at e; cases e
    | false =>
      rw [hb] at e
      simp only [cond_false, Option.some.injEq] at e
      simp only [Option.getD_some]
      omega
/-- Behind what two logs share, no two terms at a place are the same. -/
def pair (x y : Sl S_impl_Entry) : Bool := allb (min x.n y.n) (fun j => decide (j < common x y) || !((x.f j).Term == (y.f j).Term))
theorem s_Min (fu : Nat) (x y : Nat) : F_spec_l1Min fu (x : Int) (y : Int) = some ((min x y : Nat) : Int) := by
  unfold F_spec_l1Min
  by_cases h : x < y
  · have h1 : (x : Int) < (y : Int) := by omega
    simp only [h1, decide_true, cond_true, Nat.min_eq_left (Nat.le_of_lt h)]
  · have h1 : ¬ (x : Int) < (y : Int) := by omega
    simp only [h1, decide_false, cond_false, Nat.min_eq_right (Nat.le_of_not_lt h)]
theorem min_int (x y : Nat) : minInt (x : Int) (y : Int) = ((min x y : Nat) : Int) := by
  unfold minInt
  by_cases h : y < x
  · have h1 : (y : Int) < (x : Int) := by omega
    simp only [h1, decide_true, cond_true, Nat.min_eq_right (Nat.le_of_lt h)]
  · have h1 : ¬ (y : Int) < (x : Int) := by omega
    simp only [h1, decide_false, cond_false, Nat.min_eq_left (Nat.le_of_not_lt h)]
theorem s_Pair {fu : Nat} (hf : 2000000 ≤ fu) (x y : Sl S_impl_Entry) (hx : x.n ≤ 1048576) : F_spec_l10Pair fu x y = some (pair x y) := by
  unfold F_spec_l10Pair
  rw [s_CommonOf hf x y hx]
  simp only [Option.bind_some]
  refine (L_all (fun i => (i : Int)) (min x.n y.n) (common x y) (fun j => (x.f j).Term == (y.f j).Term) (some false) (some true) (common_le x y) (fun i go _ hi => ?_) (fun go => ?_) fu (by omega)).trans ?_
  · have h1 : i < x.n := by omega
    have h2 : i < y.n := by omega
    unfold F_spec_l10Pair_B0
    simp only [s_Min, Int.toNat_natCast, Int.natCast_nonneg, Int.ofNat_lt, h1, h2, hi, decide_true, Bool.and_self, cond_true, Option.bind_some, wsucc (show i < 4611686018427387904 by omega)]
  · unfold F_spec_l10Pair_B0
    simp only [s_Min, Option.bind_some, Int.lt_irrefl, decide_false, cond_false]
  · unfold pair
    cases allb (min x.n y.n) (fun j => decide (j < common x y) || !((x.f j).Term == (y.f j).Term)) <;> rfl
def matches' (x : S_impl_Cluster) : Bool := allb x.Nodes.n (fun i => allb i (fun k => pair (x.Nodes.f i).Log (x.Nodes.f k).Log))
theorem s_Match {fu : Nat} (hf : 2000000 ≤ fu) (x : S_impl_Cluster) (hx : CluLen x) : F_spec_l10Match fu x = some (matches' x) := by
  have hn := hx.nodes
  unfold F_spec_l10Match
  refine (L_all0 (fun i => (i : Int)) x.Nodes.n (fun i => !allb i (fun k => pair (x.Nodes.f i).Log (x.Nodes.f k).Log)) (some false) (some true) (fun i go hi => ?_) (fun go => ?_) fu (by omega)).trans ?_
  · unfold F_spec_l10Match_B0
    simp only [Int.ofNat_lt, hi, decide_true, cond_true]
    refine (L_all0 (fun i => (i : Int)) i (fun k => !pair (x.Nodes.f i).Log (x.Nodes.f k).Log) (some false) (go ((i + 1 : Nat) : Int)) (fun k go' hk => ?_) (fun go' => ?_) fu (by omega)).trans ?_
    · have h1 : k < x.Nodes.n := by omega
      unfold F_spec_l10Match_B2
      simp only [Int.toNat_natCast, Int.natCast_nonneg, Int.ofNat_lt, hi, hk, h1, decide_true, Bool.and_self, cond_true, Option.bind_some, s_Pair hf (x.Nodes.f i).Log (x.Nodes.f k).Log (hx.node i hi).log, wsucc (show k < 4611686018427387904 by omega)]
    · unfold F_spec_l10Match_B2
      simp only [Int.lt_irrefl, decide_false, cond_false, wsucc (show i < 4611686018427387904 by omega)]
    · simp only [Bool.not_not]
      cases allb i (fun k => pair (x.Nodes.f i).Log (x.Nodes.f k).Log) <;> rfl
  · unfold F_spec_l10Match_B0
    simp only [Int.lt_irrefl, decide_false, cond_false]
  · unfold matches'
    simp only [Bool.not_not]
    cases allb x.Nodes.n (fun i => allb i (fun k => pair (x.Nodes.f i).Log (x.Nodes.f k).Log)) <;> rfl
theorem i_Match {fu : Nat} (hf : 2000000 ≤ fu) (x : S_impl_Cluster) (hx : CluLen x) (hid : ∀ i, i < x.Nodes.n → (x.Nodes.f i).Id = (i : Int)) : F_impl_Cluster_logsMatch fu x = some (matches' x) := by
  have hn := hx.nodes
  unfold F_impl_Cluster_logsMatch
  refine (L_all0 (fun i => (i : Int)) x.Nodes.n (fun i => !allb i (fun k => pair (x.Nodes.f i).Log (x.Nodes.f k).Log)) (some false) (some true) (fun i go hi => ?_) (fun go => ?_) fu (by omega)).trans ?_
  · unfold F_impl_Cluster_logsMatch_B0
    have hle : i ≤ x.Nodes.n := by omega
    simp only [Int.toNat_natCast, Int.natCast_nonneg, Int.ofNat_lt, hi, decide_true, Bool.and_self, cond_true, Option.bind_some, hid i hi, hle, Nat.sub_zero, Nat.zero_add, wsucc (show i < 4611686018427387904 by omega)]
    refine (L_all0 (fun i => (i : Int)) i (fun k => !pair (x.Nodes.f i).Log (x.Nodes.f k).Log) (some false) (go ((i + 1 : Nat) : Int)) (fun k go' hk => ?_) (fun go' => ?_) fu (by omega)).trans ?_
    · have h1 : k < x.Nodes.n := by omega
      have hl := (hx.node i hi).log
      unfold F_impl_Cluster_logsMatch_B2
      simp only [Int.toNat_natCast, Int.natCast_nonneg, Int.ofNat_lt, hk, decide_true, Bool.and_self, cond_true, Option.bind_some, i_CommonOf hf (x.Nodes.f i).Log (x.Nodes.f k).Log hl, wsucc (show k < 4611686018427387904 by omega)]
      refine (L_all (fun i => (i : Int)) (min (x.Nodes.f i).Log.n (x.Nodes.f k).Log.n) (common (x.Nodes.f i).Log (x.Nodes.f k).Log) (fun j => ((x.Nodes.f i).Log.f j).Term == ((x.Nodes.f k).Log.f j).Term) (some false) (go' ((k + 1 : Nat) : Int)) (common_le _ _) (fun j go2 _ hj => ?_) (fun go2 => ?_) fu (by omega)).trans ?_
      · have h2 : j < (x.Nodes.f i).Log.n := by omega
        have h3 : j < (x.Nodes.f k).Log.n := by omega
        unfold F_impl_Cluster_logsMatch_B4 F_impl_size_impl_Entry
        simp only [Int.toNat_natCast, Int.natCast_nonneg, Int.ofNat_lt, h2, h3, hj, decide_true, Bool.and_self, cond_true, Option.bind_some, min_int, wsucc (show j < 4611686018427387904 by omega)]
      · unfold F_impl_Cluster_logsMatch_B4 F_impl_size_impl_Entry
        simp only [min_int, Option.bind_some, Int.lt_irrefl, decide_false, cond_false]
      · show (bif pair (x.Nodes.f i).Log (x.Nodes.f k).Log then _ else _) = _
        cases pair (x.Nodes.f i).Log (x.Nodes.f k).Log <;> rfl
    · unfold F_impl_Cluster_logsMatch_B2
      simp only [Int.lt_irrefl, decide_false, cond_false]
    · simp only [Bool.not_not]
      cases allb i (fun k => pair (x.Nodes.f i).Log (x.Nodes.f k).Log) <;> rfl
  · unfold F_impl_Cluster_logsMatch_B0
    simp only [Int.lt_irrefl, decide_false, cond_false]
  · unfold matches'
    simp only [Bool.not_not]
    cases allb x.Nodes.n (fun i => allb i (fun k => pair (x.Nodes.f i).Log (x.Nodes.f k).Log)) <;> rfl
theorem s_LogsMatch {fu : Nat} (hf : 2000000 ≤ fu) (x : S_impl_Cluster) (hx : CluLen x) : F_spec_LogsMatch fu x = some (clusf x == 0 && matches' x) := by
  unfold F_spec_LogsMatch
  simp only [s_ClusterFault0 hf x hx, s_Match hf x hx, Option.bind_some]
  cases (clusf x == 0) <;> rfl
theorem i_LogsMatch {fu : Nat} (hf : 2000000 ≤ fu) (x : S_impl_Cluster) (hx : CluLen x) : F_impl_LogsMatch fu x = some (clusf x == 0 && matches' x) := by
  unfold F_impl_LogsMatch
  simp only [i_ClusterFault hf x hx, Option.bind_some]
  cases hc : (clusf x == 0) with
  | false => rfl
  | true =>
    have hg := clus_good (x := x) (by simpa using hc)
    simp only [cond_true, i_Match hf x hx (fun i hi => (hg.node i hi).2), Option.bind_some, Bool.true_and]
theorem plain_FnExactLogsMatch (x : S_laws_Cluster) (w : W_laws_Cluster x) : F_laws_FnExactLogsMatch plainFuel x = some true := by
  unfold F_laws_FnExactLogsMatch
  obtain ⟨y, h1, h2⟩ := sz_Cluster pf x w
  simp only [h1, Option.bind_some]
  rcases h2 with h | ⟨h, hx⟩
  · simp [h]
  · simp only [show ¬ y < 0 by omega, decide_false, cond_false, t_Cluster pf x hx, s_LogsMatch pf _ (toC_len hx), i_LogsMatch pf _ (toC_len hx), e_Cluster pf _ (toC_len hx), Option.bind_some]
    simp
end Go.Proofs.Ytnfippmeficfjaa.Pc
