/- Plain laws of the audit: seals that are kept; the safe cluster. Conditions: none. -/
import Derived.Test.YtnfippmeficfjaaPcPlMatch
namespace Go.Proofs.Ytnfippmeficfjaa.Pc
open Go Go.RowKit Go.Proofs Vm
set_option linter.unusedVariables false
set_option linter.unusedSimpArgs false
set_option maxRecDepth 100000

theorem nodef_commit {x : S_impl_Node} (h : nodef x = 0) : 0 ≤ x.Commit ∧ x.Commit ≤ (x.Log.n : Int) := by
  unfold nodef at h
  cases h1 : head x <;> rw [h1] at h
  · cases h
  · simp only [Bool.not_true, cond_false] at h
    cases h2 : (logf x.Log != 0) with
    | true => rw [h2] at h; simp only [cond_true] at h; rw [h] at h2; simp at h2
    | false =>
      rw [h2] at h
      simp only [cond_false] at h
      cases h3 : decide ((lastE x.Log).Term > x.Term) with
      | true => rw [h3] at h; cases h
      | false =>
        rw [h3] at h
        simp only [cond_false] at h
        cases h4 : rng x.Commit 0 (x.Log.n : Int) with
        | false => rw [h4] at h; cases h
        | true =>
          unfold rng at h4
          simp only [Bool.and_eq_true, decide_eq_true_eq] at h4
          exact h4

theorem scan_first {α : Type} {f : Nat → Option α} {a : α} : ∀ {m i : Nat}, scan f m i = some a → ∃ j, i ≤ j ∧ j < i + m ∧ f j = some a ∧ ∀ k, i ≤ k → k < j → f k = none
  | 0, i, h => by simp [scan_zero] at h
  | m + 1, i, h => by
    rw [scan_succ] at h
    cases hq : f i with
    | some b =>
      rw [hq] at h
      have h := Option.some.inj h; subst h
      exact ⟨i, Nat.le_refl _, by omega, hq, fun k h1 h2 => by omega⟩
    | none =>
      rw [hq] at h
      obtain ⟨j, h1, h2, h3, h4⟩ := scan_first h
      refine ⟨j, by omega, by omega, h3, fun k hk1 hk2 => ?_⟩
      by_cases e : k = i
      · subst e; exact hq
      · exact h4 k (by omega) hk2

/-- So many are shared, or more. -/
theorem le_common (x y : Sl S_impl_Entry) (c : Nat) : c ≤ common x y ↔ c ≤ min x.n y.n ∧ ∀ k, k < c → eqE (x.f k) (y.f k) = true := by
  unfold common
  cases h : scan (comAt x y) (min x.n y.n) 0 with
  | none =>
    simp only [Option.getD_none]
    refine ⟨fun hc => ⟨hc, fun k hk => ?_⟩, fun hc => hc.1⟩
    have := scan_none.1 h k (by omega) (by omega)
    unfold comAt at this
    cases hb : eqE (x.f k) (y.f k) with
    | true => rfl
    | false => rw [hb] at this; cases this
  | some j =>
    simp only [Option.getD_some]
    obtain ⟨i, _, hi, e, hbelow⟩ := scan_first h
    have hij : i = j ∧ eqE (x.f i) (y.f i) = false := by
      unfold comAt at e
      cases hb : eqE (x.f i) (y.f i) with
      | true => rw [hb] at e; cases e
      | false => rw [hb] at e; simp only [cond_false, Option.some.injEq] at e; exact ⟨e, rfl⟩
    obtain ⟨rfl, hf⟩ := hij
    refine ⟨fun hc => ⟨by omega, fun k hk => ?_⟩, fun hc => ?_⟩
    · have := hbelow k (by omega) (by omega)
      unfold comAt at this
      cases hb : eqE (x.f k) (y.f k) with
      | true => rfl
      | false => rw [hb] at this; cases this
    · by_cases hci : c ≤ i
      · exact hci
      · exact absurd (hc.2 i (by omega)) (by rw [hf]; simp)

/-- The sealed entries, as the program collects them. -/
theorem i_sealed {fu : Nat} (hf : 2000000 ≤ fu) (x : S_impl_Cluster) (hx : x.Seals.n ≤ 1048576) : ∃ f, F_impl_Cluster_sealed fu x = some ⟨none, x.Seals.n, f⟩ ∧ ∀ k, k < x.Seals.n → f k = (x.Seals.f k).Entry := by
  unfold F_impl_Cluster_sealed
  let step : Nat → (Nat → S_impl_Entry) → Sum Unit (Nat → S_impl_Entry) := fun i o => .inr (fun k => if k < i then o k else ((fun i' => [(x.Seals.f i).Entry].getD i' (dflt .impl_Entry)) (k - i)))
  let I : Nat → (Nat → S_impl_Entry) → Prop := fun i o => ∀ k, k < i → o k = (x.Seals.f k).Entry
  have hI : ∀ i s s', i < x.Seals.n → I i s → step i s = .inr s' → I (i + 1) s' := by
    intro i s s' _ hs he
    cases he
    intro k hk
    by_cases hki : k < i
    · simp only [hki, if_true]; exact hs k hki
    · have : k = i := by omega
      subst this
      simp only [Nat.lt_irrefl, if_false, Nat.sub_self]
      rfl
  have hrun : ∀ m i s, ∃ s', run step m i s = .inr s' := by
    intro m
    induction m with
    | zero => intro i s; exact ⟨s, rfl⟩
    | succ m ih => intro i s; exact ih (i + 1) _
  obtain ⟨o, ho⟩ := hrun x.Seals.n 0 (fun _ => dflt .impl_Entry)
  have hfin := runI (f := step) I x.Seals.n 0 _ o (fun j s s' _ hj hs he => hI j s s' (by omega) hs he) (fun k hk => by omega) ho
  rw [Nat.zero_add] at hfin
  refine ⟨o, ?_, hfin⟩
  have h := L_runI (α := Unit) (B := fun w0 go0 => F_impl_Cluster_sealed_B0 fu x.Seals ((x.Seals.n : Nat) : Int) (fun z420 z421 z422 => (some (⟨none, z420, z422⟩ : (Sl S_impl_Entry)))) w0.1 w0.2.1 w0.2.2.1 w0.2.2.2 (fun q0 q1 q2 q3 => go0 (q0, q1, q2, q3)))
    (fun i (s : Nat → S_impl_Entry) => ((i, (i : Int), i, s) : Nat × Int × Nat × (Nat → S_impl_Entry))) x.Seals.n step (fun _ => none) (fun s => some ⟨none, x.Seals.n, s⟩) I
    (fun i s go hi hs => by
      unfold F_impl_Cluster_sealed_B0
      have h1 : i + 1 ≤ 9223372036854775807 := by omega
      have h2 : (i + 1) * 72 ≤ 140737488355328 := by omega
      simp only [Int.toNat_natCast, Int.natCast_nonneg, Int.ofNat_lt, hi, h1, h2, decide_true, Bool.and_self, cond_true, Option.bind_some, wsucc (show i < 4611686018427387904 by omega)]
      rfl)
    hI (fun s go _ => by unfold F_impl_Cluster_sealed_B0; simp only [Int.lt_irrefl, decide_false, cond_false]) x.Seals.n 0 (fun _ => dflt .impl_Entry) fu (by omega) (by omega) (fun k hk => by omega)
  rw [ho] at h
  exact h

def keptAt (x : S_impl_Cluster) (i : Nat) : Bool := !decide ((x.Nodes.f i).Commit > (x.Seals.n : Int)) && allb (x.Nodes.f i).Commit.toNat (fun k => eqE ((x.Nodes.f i).Log.f k) (x.Seals.f k).Entry)
def kept (x : S_impl_Cluster) : Bool := allb x.Nodes.n (keptAt x)
theorem s_Kept {fu : Nat} (hf : 2000000 ≤ fu) (x : S_impl_Cluster) (hg : CluGood x) : F_spec_l10Kept fu x = some (kept x) := by
  have hn := hg.nodes
  have hs := hg.seals
  unfold F_spec_l10Kept
  refine (L_all0 (fun i => (i : Int)) x.Nodes.n (fun i => !keptAt x i) (some false) (some true) (fun i go hi => ?_) (fun go => ?_) fu (by omega)).trans ?_
  · obtain ⟨c0, c1⟩ := nodef_commit (hg.node i hi).1
    obtain ⟨c, hc⟩ : ∃ c : Nat, (x.Nodes.f i).Commit = (c : Int) := ⟨(x.Nodes.f i).Commit.toNat, by omega⟩
    unfold F_spec_l10Kept_B0 keptAt
    simp only [Int.toNat_natCast, Int.natCast_nonneg, Int.ofNat_lt, hi, decide_true, Bool.and_self, cond_true, Option.bind_some, hc, wsucc (show i < 4611686018427387904 by omega)]
    by_cases hcs : x.Seals.n < c
    · simp only [hcs, decide_true, cond_true, Bool.not_true, Bool.false_and, Bool.not_false]
    · simp only [hcs, decide_false, cond_false, Bool.not_false, Bool.true_and]
      refine (L_all0 (fun i => (i : Int)) c (fun k => !eqE ((x.Nodes.f i).Log.f k) (x.Seals.f k).Entry) (some false) (go ((i + 1 : Nat) : Int)) (fun k go' hk => ?_) (fun go' => ?_) fu (by omega)).trans ?_
      · have h1 : k < (x.Nodes.f i).Log.n := by omega
        have h2 : k < x.Seals.n := by omega
        unfold F_spec_l10Kept_B2
        simp only [Int.toNat_natCast, Int.natCast_nonneg, Int.ofNat_lt, hk, h1, h2, decide_true, Bool.and_self, cond_true, Option.bind_some, wsucc (show k < 4611686018427387904 by omega)]
        show (bif (!eqE ((x.Nodes.f i).Log.f k) (x.Seals.f k).Entry) then _ else _) = _
        cases eqE ((x.Nodes.f i).Log.f k) (x.Seals.f k).Entry <;> rfl
      · unfold F_spec_l10Kept_B2
        simp only [Int.lt_irrefl, decide_false, cond_false]
      · simp only [Bool.not_not]
        cases allb c (fun k => eqE ((x.Nodes.f i).Log.f k) (x.Seals.f k).Entry) <;> rfl
  · unfold F_spec_l10Kept_B0
    simp only [Int.lt_irrefl, decide_false, cond_false]
  · unfold kept
    simp only [Bool.not_not]
    cases allb x.Nodes.n (keptAt x) <;> rfl
theorem i_Kept {fu : Nat} (hf : 2000000 ≤ fu) (x : S_impl_Cluster) (hx : CluLen x) (hg : CluGood x) : F_impl_Cluster_sealsKept fu x = some (kept x) := by
  have hn := hg.nodes
  have hs := hg.seals
  unfold F_impl_Cluster_sealsKept
  obtain ⟨f, h1, h2⟩ := i_sealed hf x hx.seals
  rw [h1]
  simp only [Option.bind_some]
  have e : F_slices_ContainsFunc_impl_Node_impl_Node_w_impl_Cluster_sealsKept_c1 fu x.Nodes ⟨none, x.Seals.n, f⟩ = some (!kept x) := by
    unfold F_slices_ContainsFunc_impl_Node_impl_Node_w_impl_Cluster_sealsKept_c1 F_slices_IndexFunc_impl_Node_impl_Node_w_impl_Cluster_sealsKept_c1
    have h := L_scanE (B := fun w0 go0 => F_slices_IndexFunc_impl_Node_impl_Node_w_impl_Cluster_sealsKept_c1_B0 fu x.Nodes ⟨none, x.Seals.n, f⟩ ((x.Nodes.n : Nat) : Int) (fun z425 => (some z425)) (some (-1)) w0 go0) (fun i => (i : Int)) x.Nodes.n (fun i => bif keptAt x i then none else some i) (fun i => some ((i : Nat) : Int)) (some (-1))
      (fun i go hi => by
        obtain ⟨c0, c1⟩ := nodef_commit (hg.node i hi).1
        obtain ⟨c, hc⟩ : ∃ c : Nat, (x.Nodes.f i).Commit = (c : Int) := ⟨(x.Nodes.f i).Commit.toNat, by omega⟩
        unfold F_slices_IndexFunc_impl_Node_impl_Node_w_impl_Cluster_sealsKept_c1_B0 F_impl_Cluster_sealsKept_c1
        simp only [Int.toNat_natCast, Int.natCast_nonneg, Int.ofNat_lt, hi, decide_true, Bool.and_self, cond_true, Option.bind_some, i_CommonOf hf (x.Nodes.f i).Log ⟨none, x.Seals.n, f⟩ (hx.node i hi).log, hc, wsucc (show i < 4611686018427387904 by omega)]
        have hk : decide (common (x.Nodes.f i).Log ⟨none, x.Seals.n, f⟩ < c) = !keptAt x i := by
          have hle := le_common (x.Nodes.f i).Log ⟨none, x.Seals.n, f⟩ c
          unfold keptAt
          rw [hc, Int.toNat_natCast]
          by_cases hcs : (c : Int) > (x.Seals.n : Int)
          · simp only [hcs, decide_true, Bool.not_true, Bool.false_and, Bool.not_false, decide_eq_true_eq]
            have : ¬ c ≤ common (x.Nodes.f i).Log ⟨none, x.Seals.n, f⟩ := fun h => by
              have h3 := (hle.1 h).1
              have h4 : c ≤ x.Seals.n := Nat.le_trans h3 (Nat.min_le_right _ _)
              omega
            omega
          · simp only [hcs, decide_false, Bool.not_false, Bool.true_and]
            cases ha : allb c (fun k => eqE ((x.Nodes.f i).Log.f k) (x.Seals.f k).Entry) with
            | true =>
              have h3 : c ≤ common (x.Nodes.f i).Log ⟨none, x.Seals.n, f⟩ := hle.2 ⟨Nat.le_min.2 ⟨by omega, show c ≤ x.Seals.n by omega⟩, fun k hk => by
                show eqE ((x.Nodes.f i).Log.f k) (f k) = true
                rw [h2 k (by omega)]
                exact allb_iff.1 ha k hk⟩
              simp only [Bool.not_true, decide_eq_false_iff_not]
              omega
            | false =>
              simp only [Bool.not_false, decide_eq_true_eq]
              have : ¬ c ≤ common (x.Nodes.f i).Log ⟨none, x.Seals.n, f⟩ := fun h => by
                have h3 := (hle.1 h).2
                have h4 : allb c (fun k => eqE ((x.Nodes.f i).Log.f k) (x.Seals.f k).Entry) = true := allb_iff.2 (fun k hk => by
                  have := h3 k hk
                  rw [← h2 k (by omega)]
                  exact this)
                rw [h4] at ha; cases ha
              omega
        rw [hk]
        cases keptAt x i <;> rfl)
      (fun go => by unfold F_slices_IndexFunc_impl_Node_impl_Node_w_impl_Cluster_sealsKept_c1_B0; simp only [Int.lt_irrefl, decide_false, cond_false]) x.Nodes.n 0 fu (by omega) (by omega)
    rw [show ((0 : Nat) : Int) = 0 from rfl] at h
    rw [h]
    unfold kept
    cases hs' : scan (fun i => bif keptAt x i then none else some i) x.Nodes.n 0 with
    | none =>
      have : allb x.Nodes.n (keptAt x) = true := allb_iff.2 (fun i hi => by
        have := scan_none.1 hs' i (by omega) (by omega)
        cases hr : keptAt x i with
        | true => rfl
        | false => simp [hr] at this)
      rw [this]; rfl
    | some j =>
      have : allb x.Nodes.n (keptAt x) = false := by
        rw [Bool.eq_false_iff]
        intro ha
        have : scan (fun i => bif keptAt x i then none else some i) x.Nodes.n 0 = none := scan_none.2 (fun i _ hi => by rw [allb_iff.1 ha i (by omega)]; rfl)
        rw [this] at hs'; cases hs'
      rw [this]
      simp
  rw [e]
  simp only [Option.bind_some, Bool.not_not]
theorem s_SealsKept {fu : Nat} (hf : 2000000 ≤ fu) (x : S_impl_Cluster) (hx : CluLen x) : F_spec_SealsKept fu x = some (clusf x == 0 && kept x) := by
  unfold F_spec_SealsKept
  simp only [s_ClusterFault0 hf x hx, Option.bind_some]
  cases hc : (clusf x == 0) with
  | false => rfl
  | true => simp only [cond_true, s_Kept hf x (clus_good (by simpa using hc)), Option.bind_some, Bool.true_and]
theorem i_SealsKept {fu : Nat} (hf : 2000000 ≤ fu) (x : S_impl_Cluster) (hx : CluLen x) : F_impl_SealsKept fu x = some (clusf x == 0 && kept x) := by
  unfold F_impl_SealsKept
  simp only [i_ClusterFault hf x hx, Option.bind_some]
  cases hc : (clusf x == 0) with
  | false => rfl
  | true => simp only [cond_true, i_Kept hf x hx (clus_good (by simpa using hc)), Option.bind_some, Bool.true_and]
theorem plain_FnExactSealsKept (x : S_laws_Cluster) (w : W_laws_Cluster x) : F_laws_FnExactSealsKept plainFuel x = some true := by
  unfold F_laws_FnExactSealsKept
  obtain ⟨y, h1, h2⟩ := sz_Cluster pf x w
  simp only [h1, Option.bind_some]
  rcases h2 with h | ⟨h, hx⟩
  · simp [h]
  · simp only [show ¬ y < 0 by omega, decide_false, cond_false, t_Cluster pf x hx, s_SealsKept pf _ (toC_len hx), i_SealsKept pf _ (toC_len hx), e_Cluster pf _ (toC_len hx), Option.bind_some]
    simp

theorem s_SafeCluster {fu : Nat} (hf : 2000000 ≤ fu) (x : S_impl_Cluster) (hx : CluLen x) : F_spec_SafeCluster fu x = some (clusf x == 0 && (one x && (matches' x && (kept x && have' x)))) := by
  unfold F_spec_SafeCluster
  simp only [s_ClusterFault0 hf x hx, s_One hf x hx.wins, s_Match hf x hx, s_Have hf x hx.nodes hx.seals, Option.bind_some]
  cases hc : (clusf x == 0) with
  | false => rfl
  | true =>
    simp only [s_Kept hf x (clus_good (by simpa using hc)), Option.bind_some, cond_true, Bool.true_and]
    cases one x <;> cases matches' x <;> cases kept x <;> rfl
theorem i_SafeCluster {fu : Nat} (hf : 2000000 ≤ fu) (x : S_impl_Cluster) (hx : CluLen x) : F_impl_SafeCluster fu x = some (clusf x == 0 && (one x && (matches' x && (kept x && have' x)))) := by
  unfold F_impl_SafeCluster
  simp only [i_ClusterFault hf x hx, i_One hf x hx.wins, i_Have hf x hx.nodes hx.seals, Option.bind_some]
  cases hc : (clusf x == 0) with
  | false => rfl
  | true =>
    have hg := clus_good (x := x) (by simpa using hc)
    simp only [i_Kept hf x hx hg, i_Match hf x hx (fun i hi => (hg.node i hi).2), Option.bind_some, cond_true, Bool.true_and]
    cases one x <;> cases matches' x <;> cases kept x <;> rfl
theorem plain_FnExactSafeCluster (x : S_laws_Cluster) (w : W_laws_Cluster x) : F_laws_FnExactSafeCluster plainFuel x = some true := by
  unfold F_laws_FnExactSafeCluster
  obtain ⟨y, h1, h2⟩ := sz_Cluster pf x w
  simp only [h1, Option.bind_some]
  rcases h2 with h | ⟨h, hx⟩
  · simp [h]
  · simp only [show ¬ y < 0 by omega, decide_false, cond_false, t_Cluster pf x hx, s_SafeCluster pf _ (toC_len hx), i_SafeCluster pf _ (toC_len hx), e_Cluster pf _ (toC_len hx), Option.bind_some]
    simp
end Go.Proofs.Ytnfippmeficfjaa.Pc
