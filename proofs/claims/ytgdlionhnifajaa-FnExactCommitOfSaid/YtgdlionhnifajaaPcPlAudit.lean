/- Plain laws of clusters: ClusterFault, OneLeader, LeadersHave, LeaderOf. Conditions: none. -/
import Derived.Test.YtgdlionhnifajaaPcPlClus2
namespace Go.Proofs.Ytgdlionhnifajaa.Pc
open Go Go.RowKit Go.Proofs Vm
set_option linter.unusedVariables false
set_option linter.unusedSimpArgs false
set_option maxRecDepth 100000

theorem plain_FnExactClusterFault (x : S_laws_Cluster) (w : W_laws_Cluster x) : F_laws_FnExactClusterFault plainFuel x = some true := by
  unfold F_laws_FnExactClusterFault
  obtain ⟨y, h1, h2⟩ := sz_Cluster pf x w
  simp only [h1, Option.bind_some]
  rcases h2 with h | ⟨h, hx⟩
  · simp [h]
  · simp only [show ¬ y < 0 by omega, decide_false, cond_false, t_Cluster pf x hx, s_ClusterFault pf _ (toC_len hx), i_ClusterFault pf _ (toC_len hx), e_Cluster pf _ (toC_len hx), Option.bind_some]
    simp

/-! ### OneLeader -/

def oneB (x : S_impl_Cluster) (i k : Nat) : Bool := ((x.Wins.f i).Term == (x.Wins.f k).Term) && ((x.Wins.f i).Node != (x.Wins.f k).Node)
def one (x : S_impl_Cluster) : Bool := allb x.Wins.n (fun i => allb i (fun k => !oneB x i k))

theorem s_One {fu : Nat} (hf : 2000000 ≤ fu) (x : S_impl_Cluster) (hx : x.Wins.n ≤ 1048576) : F_spec_l10One fu x = some (one x) := by
  unfold F_spec_l10One one
  have h := L_all0 (ρ := Bool) (B := fun w0 go0 => F_spec_l10One_B0 fu x.Nodes x.Mails x.Wins x.Seals (some false) (some true) w0 go0) (fun i => (i : Int)) x.Wins.n (fun i => !allb i (fun k => !oneB x i k)) (some false) (some true)
    (fun i go hi => by
      unfold F_spec_l10One_B0
      simp only [Int.ofNat_lt, hi, decide_true, cond_true, wsucc (show i < 4611686018427387904 by omega)]
      have h2 := L_all0 (ρ := Bool) (B := fun w2 go2 => F_spec_l10One_B2 fu x.Nodes x.Mails x.Wins x.Seals (i : Int) (some false) (go ((i + 1 : Nat) : Int)) w2 go2) (fun k => (k : Int)) i (fun k => oneB x i k) (some false) (go ((i + 1 : Nat) : Int))
        (fun k go2 hk => by
          unfold F_spec_l10One_B2 oneB
          have hkn : k < x.Wins.n := by omega
          simp only [Int.toNat_natCast, Int.natCast_nonneg, Int.ofNat_lt, hi, hk, hkn, decide_true, Bool.and_self, cond_true, Option.bind_some, wsucc (show k < 4611686018427387904 by omega)]
          cases ((x.Wins.f i).Term == (x.Wins.f k).Term) <;> rfl)
        (fun go2 => by unfold F_spec_l10One_B2; simp) fu (by omega)
      rw [show ((0 : Nat) : Int) = 0 from rfl] at h2
      rw [h2]
      cases allb i (fun k => !oneB x i k) <;> rfl)
    (fun go => by unfold F_spec_l10One_B0; simp) fu (by omega)
  rw [show ((0 : Nat) : Int) = 0 from rfl] at h
  rw [h]
  simp only [Bool.not_not]
  cases allb x.Wins.n (fun i => allb i (fun k => !oneB x i k)) <;> rfl

theorem i_One {fu : Nat} (hf : 2000000 ≤ fu) (x : S_impl_Cluster) (hx : x.Wins.n ≤ 1048576) : F_impl_Cluster_oneLeader fu x = some (one x) := by
  unfold F_impl_Cluster_oneLeader one
  have h := L_all0 (ρ := Bool) (B := fun w0 go0 => F_impl_Cluster_oneLeader_B0 fu x.Nodes x.Mails x.Wins x.Seals x.Wins ((x.Wins.n : Nat) : Int) (fun z472 z473 z474 z475 => (some false)) (some true) w0 go0) (fun i => (i : Int)) x.Wins.n (fun i => !allb i (fun k => !oneB x i k)) (some false) (some true)
    (fun i go hi => by
      unfold F_impl_Cluster_oneLeader_B0
      have hi' : i ≤ x.Wins.n := by omega
      simp only [Int.toNat_natCast, Int.natCast_nonneg, Int.ofNat_lt, hi, hi', decide_true, Bool.and_self, cond_true, Option.bind_some, Nat.sub_zero, wsucc (show i < 4611686018427387904 by omega)]
      have h2 := L_all0 (ρ := Bool) (B := fun w2 go2 => F_impl_Cluster_oneLeader_B2 fu x.Nodes x.Mails x.Wins x.Seals x.Wins ((x.Wins.n : Nat) : Int) (i : Int) (⟨x.Wins.z, i, (fun i => x.Wins.f (0 + i))⟩ : (Sl S_impl_Won)) ((i : Nat) : Int) ((x.Wins.f i).Term) ((x.Wins.f i).Node) (fun z470 z471 => (some false)) (go ((i + 1 : Nat) : Int)) w2 go2) (fun k => (k : Int)) i (fun k => oneB x i k) (some false) (go ((i + 1 : Nat) : Int))
        (fun k go2 hk => by
          unfold F_impl_Cluster_oneLeader_B2 oneB
          simp only [Int.toNat_natCast, Int.natCast_nonneg, Int.ofNat_lt, hk, decide_true, Bool.and_self, cond_true, Option.bind_some, Nat.zero_add, wsucc (show k < 4611686018427387904 by omega)]
          cases ((x.Wins.f i).Term == (x.Wins.f k).Term) <;> rfl)
        (fun go2 => by unfold F_impl_Cluster_oneLeader_B2; simp) fu (by omega)
      rw [show ((0 : Nat) : Int) = 0 from rfl] at h2
      rw [h2]
      cases allb i (fun k => !oneB x i k) <;> rfl)
    (fun go => by unfold F_impl_Cluster_oneLeader_B0; simp) fu (by omega)
  rw [show ((0 : Nat) : Int) = 0 from rfl] at h
  rw [h]
  simp only [Bool.not_not]
  cases allb x.Wins.n (fun i => allb i (fun k => !oneB x i k)) <;> rfl

theorem s_OneLeader {fu : Nat} (hf : 2000000 ≤ fu) (x : S_impl_Cluster) (hx : CluLen x) : F_spec_OneLeader fu x = some (clusf x == 0 && one x) := by
  unfold F_spec_OneLeader
  simp only [s_ClusterFault0 hf x hx, s_One hf x hx.wins, Option.bind_some]
  cases (clusf x == 0) <;> rfl
theorem i_OneLeader {fu : Nat} (hf : 2000000 ≤ fu) (x : S_impl_Cluster) (hx : CluLen x) : F_impl_OneLeader fu x = some (clusf x == 0 && one x) := by
  unfold F_impl_OneLeader
  simp only [i_ClusterFault hf x hx, i_One hf x hx.wins, Option.bind_some]
  cases (clusf x == 0) <;> rfl

theorem plain_FnExactOneLeader (x : S_laws_Cluster) (w : W_laws_Cluster x) : F_laws_FnExactOneLeader plainFuel x = some true := by
  unfold F_laws_FnExactOneLeader
  obtain ⟨y, h1, h2⟩ := sz_Cluster pf x w
  simp only [h1, Option.bind_some]
  rcases h2 with h | ⟨h, hx⟩
  · simp [h]
  · simp only [show ¬ y < 0 by omega, decide_false, cond_false, t_Cluster pf x hx, s_OneLeader pf _ (toC_len hx), i_OneLeader pf _ (toC_len hx), e_Cluster pf _ (toC_len hx), Option.bind_some]
    simp

/-! ### LeadersHave -/

def haveB (x : S_impl_Cluster) (i k : Nat) : Bool := decide ((x.Seals.f k).Term ≤ (x.Nodes.f i).Term) && (decide ((k : Int) ≥ ((x.Nodes.f i).Log.n : Int)) || !eqE ((x.Nodes.f i).Log.f k) (x.Seals.f k).Entry)
def have1 (x : S_impl_Cluster) (i : Nat) : Bool := ((x.Nodes.f i).Role != 2) || allb x.Seals.n (fun k => !haveB x i k)
def have' (x : S_impl_Cluster) : Bool := allb x.Nodes.n (have1 x)

theorem s_Have {fu : Nat} (hf : 2000000 ≤ fu) (x : S_impl_Cluster) (hx : x.Nodes.n ≤ 1048576) (hs : x.Seals.n ≤ 1048576) : F_spec_l10Have fu x = some (have' x) := by
  unfold F_spec_l10Have have'
  have h := L_all0 (ρ := Bool) (B := fun w0 go0 => F_spec_l10Have_B0 fu x.Nodes x.Mails x.Wins x.Seals (some false) (some true) w0 go0) (fun i => (i : Int)) x.Nodes.n (fun i => !have1 x i) (some false) (some true)
    (fun i go hi => by
      unfold F_spec_l10Have_B0 have1
      simp only [Int.toNat_natCast, Int.natCast_nonneg, Int.ofNat_lt, hi, decide_true, Bool.and_self, cond_true, Option.bind_some, wsucc (show i < 4611686018427387904 by omega)]
      cases ((x.Nodes.f i).Role != 2) with
      | true => rfl
      | false =>
        simp only [cond_false, Bool.false_or]
        have h2 := L_all0 (ρ := Bool) (B := fun w2 go2 => F_spec_l10Have_B2 fu x.Nodes x.Mails x.Wins x.Seals (i : Int) ((x.Nodes.f i).Id) ((x.Nodes.f i).Peers) ((x.Nodes.f i).Term) ((x.Nodes.f i).Voted) ((x.Nodes.f i).Log) ((x.Nodes.f i).Role) ((x.Nodes.f i).Commit) ((x.Nodes.f i).Votes) ((x.Nodes.f i).Next) ((x.Nodes.f i).Match) (some false) (go ((i + 1 : Nat) : Int)) w2 go2) (fun k => (k : Int)) x.Seals.n (fun k => haveB x i k) (some false) (go ((i + 1 : Nat) : Int))
          (fun k go2 hk => by
            unfold F_spec_l10Have_B2 haveB
            simp only [Int.toNat_natCast, Int.natCast_nonneg, Int.ofNat_lt, hk, decide_true, Bool.and_self, cond_true, Option.bind_some, wsucc (show k < 4611686018427387904 by omega)]
            cases decide ((x.Seals.f k).Term ≤ (x.Nodes.f i).Term) with
            | false => rfl
            | true =>
              by_cases hg : (k : Int) ≥ ((x.Nodes.f i).Log.n : Int)
              · simp only [hg, decide_true, cond_true, Option.bind_some, Bool.true_or, Bool.and_self]
              · have hk' : k < (x.Nodes.f i).Log.n := by omega
                simp only [hg, hk', decide_true, decide_false, cond_true, cond_false, Option.bind_some, Bool.false_or, Bool.true_and]
                show (bif (!eqE ((x.Nodes.f i).Log.f k) (x.Seals.f k).Entry) then _ else _) = _
                rfl)
          (fun go2 => by unfold F_spec_l10Have_B2; simp) fu (by omega)
        rw [show ((0 : Nat) : Int) = 0 from rfl] at h2
        rw [h2]
        cases allb x.Seals.n (fun k => !haveB x i k) <;> rfl)
    (fun go => by unfold F_spec_l10Have_B0; simp) fu (by omega)
  rw [show ((0 : Nat) : Int) = 0 from rfl] at h
  rw [h]
  simp only [Bool.not_not]
  show (bif allb x.Nodes.n (have1 x) then _ else _) = _
  cases allb x.Nodes.n (have1 x) <;> rfl

theorem i_Have {fu : Nat} (hf : 2000000 ≤ fu) (x : S_impl_Cluster) (hx : x.Nodes.n ≤ 1048576) (hs : x.Seals.n ≤ 1048576) : F_impl_Cluster_leadersHave fu x = some (have' x) := by
  unfold F_impl_Cluster_leadersHave have'
  have h := L_all0 (ρ := Bool) (B := fun w0 go0 => F_impl_Cluster_leadersHave_B0 fu x.Nodes x.Mails x.Wins x.Seals x.Nodes ((x.Nodes.n : Nat) : Int) (fun z501 z502 z503 z504 z505 z506 z507 z508 z509 z510 z511 z512 z513 z514 z515 z516 z517 z518 z519 z520 => (some false)) (some true) w0 go0) (fun i => (i : Int)) x.Nodes.n (fun i => !have1 x i) (some false) (some true)
    (fun i go hi => by
      unfold F_impl_Cluster_leadersHave_B0 have1
      simp only [Int.toNat_natCast, Int.natCast_nonneg, Int.ofNat_lt, hi, decide_true, Bool.and_self, cond_true, Option.bind_some, wsucc (show i < 4611686018427387904 by omega)]
      cases ((x.Nodes.f i).Role != 2) with
      | true => rfl
      | false =>
        simp only [cond_false, Bool.false_or]
        have h2 := L_all0 (ρ := Bool) (B := fun w2 go2 => F_impl_Cluster_leadersHave_B2 fu x.Nodes x.Mails x.Wins x.Seals x.Nodes ((x.Nodes.n : Nat) : Int) (i : Int) x.Seals ((x.Seals.n : Nat) : Int) ((x.Nodes.f i).Id) ((x.Nodes.f i).Peers) ((x.Nodes.f i).Term) ((x.Nodes.f i).Voted) ((x.Nodes.f i).Log) ((x.Nodes.f i).Role) ((x.Nodes.f i).Commit) ((x.Nodes.f i).Votes) ((x.Nodes.f i).Next) ((x.Nodes.f i).Match) (fun z491 z492 z493 z494 z495 z496 z497 z498 z499 z500 => (some false)) (go ((i + 1 : Nat) : Int)) w2 go2) (fun k => (k : Int)) x.Seals.n (fun k => haveB x i k) (some false) (go ((i + 1 : Nat) : Int))
          (fun k go2 hk => by
            unfold F_impl_Cluster_leadersHave_B2 haveB
            simp only [Int.toNat_natCast, Int.natCast_nonneg, Int.ofNat_lt, hk, decide_true, Bool.and_self, cond_true, Option.bind_some, wsucc (show k < 4611686018427387904 by omega)]
            cases decide ((x.Seals.f k).Term ≤ (x.Nodes.f i).Term) with
            | false => rfl
            | true =>
              by_cases hg : (k : Int) ≥ ((x.Nodes.f i).Log.n : Int)
              · simp only [hg, decide_true, cond_true, Option.bind_some, Bool.true_or, Bool.and_self]
              · have hk' : k < (x.Nodes.f i).Log.n := by omega
                simp only [hg, hk', decide_true, decide_false, cond_true, cond_false, Option.bind_some, Bool.false_or, Bool.true_and]
                show (bif (!eqE ((x.Nodes.f i).Log.f k) (x.Seals.f k).Entry) then _ else _) = _
                rfl)
          (fun go2 => by unfold F_impl_Cluster_leadersHave_B2; simp) fu (by omega)
        rw [show ((0 : Nat) : Int) = 0 from rfl] at h2
        rw [h2]
        cases allb x.Seals.n (fun k => !haveB x i k) <;> rfl)
    (fun go => by unfold F_impl_Cluster_leadersHave_B0; simp) fu (by omega)
  rw [show ((0 : Nat) : Int) = 0 from rfl] at h
  rw [h]
  simp only [Bool.not_not]
  show (bif allb x.Nodes.n (have1 x) then _ else _) = _
  cases allb x.Nodes.n (have1 x) <;> rfl

theorem s_LeadersHave {fu : Nat} (hf : 2000000 ≤ fu) (x : S_impl_Cluster) (hx : CluLen x) : F_spec_LeadersHave fu x = some (clusf x == 0 && have' x) := by
  unfold F_spec_LeadersHave
  simp only [s_ClusterFault0 hf x hx, s_Have hf x hx.nodes hx.seals, Option.bind_some]
  cases (clusf x == 0) <;> rfl
theorem i_LeadersHave {fu : Nat} (hf : 2000000 ≤ fu) (x : S_impl_Cluster) (hx : CluLen x) : F_impl_LeadersHave fu x = some (clusf x == 0 && have' x) := by
  unfold F_impl_LeadersHave
  simp only [i_ClusterFault hf x hx, i_Have hf x hx.nodes hx.seals, Option.bind_some]
  cases (clusf x == 0) <;> rfl

theorem plain_FnExactLeadersHave (x : S_laws_Cluster) (w : W_laws_Cluster x) : F_laws_FnExactLeadersHave plainFuel x = some true := by
  unfold F_laws_FnExactLeadersHave
  obtain ⟨y, h1, h2⟩ := sz_Cluster pf x w
  simp only [h1, Option.bind_some]
  rcases h2 with h | ⟨h, hx⟩
  · simp [h]
  · simp only [show ¬ y < 0 by omega, decide_false, cond_false, t_Cluster pf x hx, s_LeadersHave pf _ (toC_len hx), i_LeadersHave pf _ (toC_len hx), e_Cluster pf _ (toC_len hx), Option.bind_some]
    simp

/-! ### LeaderOf -/

def leadC (x : S_impl_Cluster) (i : Nat) (s : Int) : Bool := ((x.Nodes.f i).Role == 2) && (decide (s < 0) || decide ((x.Nodes.f i).Term > (x.Nodes.f s.toNat).Term))
def leadF (x : S_impl_Cluster) (i : Nat) (s : Int) : Sum Unit Int := .inr (bif leadC x i s then (i : Int) else s)
def leadI (i : Nat) (s : Int) : Prop := s = -1 ∨ (0 ≤ s ∧ s < (i : Int))
theorem leadI_step {x : S_impl_Cluster} (i : Nat) (s s' : Int) (n : Nat) (hi : i < n) (h : leadI i s) (he : leadF x i s = .inr s') : leadI (i + 1) s' := by
  unfold leadF at he
  have he := Sum.inr.inj he
  subst he
  unfold leadI at h ⊢
  cases leadC x i s
  · rcases h with h | h
    · exact .inl h
    · right; simp only [cond_false]; omega
  · right; simp only [cond_true]; omega

def leader (x : S_impl_Cluster) : Int := match run (leadF x) x.Nodes.n 0 (-1) with | .inl _ => 0 | .inr s => s

theorem s_LeaderOf {fu : Nat} (hf : 2000000 ≤ fu) (x : S_impl_Cluster) (hx : CluLen x) : F_spec_LeaderOf fu x = some (bif clusf x != 0 then ⟨clusf x, 0⟩ else bif decide (leader x < 0) then ⟨4, 0⟩ else ⟨0, leader x⟩) := by
  have hn := hx.nodes
  unfold F_spec_LeaderOf leader
  simp only [s_ClusterFault0 hf x hx, Option.bind_some]
  cases (clusf x != 0) with
  | true => rfl
  | false =>
    simp only [cond_false]
    have h := L_runI (ρ := S_impl_IntResult) (α := Unit) (σ := Int) (B := fun w0 go0 => F_spec_LeaderOf_B0 fu 0 0 x.Nodes x.Mails x.Wins x.Seals (fun z531 => (bif (decide (z531 < 0)) then (some (⟨4, 0⟩ : S_impl_IntResult)) else (some (⟨0, z531⟩ : S_impl_IntResult)))) w0.1 w0.2 (fun q0 q1 => go0 (q0, q1)))
      (fun i s => (s, (i : Int))) x.Nodes.n (leadF x) (fun _ => none) (fun s => (bif (decide (s < 0)) then (some (⟨4, 0⟩ : S_impl_IntResult)) else (some (⟨0, s⟩ : S_impl_IntResult)))) leadI
      (fun i s go hi hI => by
        unfold F_spec_LeaderOf_B0 leadF leadC
        simp only [Int.toNat_natCast, Int.natCast_nonneg, Int.ofNat_lt, hi, decide_true, Bool.and_self, cond_true, Option.bind_some, wsucc (show i < 4611686018427387904 by omega)]
        cases ((x.Nodes.f i).Role == 2) with
        | false => rfl
        | true =>
          rcases hI with h | ⟨h, h'⟩
          · subst h; rfl
          · have h1 : ¬ s < 0 := by omega
            have h2 : s.toNat < x.Nodes.n := by omega
            simp only [h1, h, h2, decide_true, decide_false, Bool.and_self, cond_true, cond_false, Option.bind_some, Bool.false_or, Bool.true_and]
            cases decide ((x.Nodes.f i).Term > (x.Nodes.f s.toNat).Term) <;> rfl)
      (fun i s s' hi h he => leadI_step i s s' x.Nodes.n hi h he)
      (fun s go _ => by unfold F_spec_LeaderOf_B0; simp) x.Nodes.n 0 (-1) fu (by omega) (by omega) (.inl rfl)
    rw [show ((0 : Nat) : Int) = 0 from rfl] at h
    rw [h]
    cases hr : run (leadF x) x.Nodes.n 0 (-1) with
    | inl a =>
      exfalso
      have key : ∀ m i s, ∃ s', run (leadF x) m i s = .inr s' := by
        intro m
        induction m with
        | zero => intro i s; exact ⟨s, rfl⟩
        | succ m ih => intro i s; simp only [run, leadF]; exact ih _ _
      obtain ⟨s', hs⟩ := key x.Nodes.n 0 (-1)
      rw [hs] at hr; cases hr
    | inr s => dsimp only; cases decide (s < 0) <;> rfl

theorem i_leader {fu : Nat} (hf : 2000000 ≤ fu) (x : S_impl_Cluster) (hx : CluLen x) (hid : ∀ i, i < x.Nodes.n → (x.Nodes.f i).Id = (i : Int)) : F_impl_Cluster_leader fu x = some (leader x) := by
  have hn := hx.nodes
  unfold F_impl_Cluster_leader leader
  have h := L_runI (ρ := Int) (α := Unit) (σ := Int) (B := fun w0 go0 => F_impl_Cluster_leader_B0 fu x.Nodes x.Mails x.Wins x.Seals x.Nodes ((x.Nodes.n : Nat) : Int) (fun z535 => (some z535)) w0.1 w0.2 (fun q0 q1 => go0 (q0, q1)))
    (fun i s => (s, (i : Int))) x.Nodes.n (leadF x) (fun _ => none) (fun s => some s) leadI
    (fun i s go hi hI => by
      unfold F_impl_Cluster_leader_B0 leadF leadC
      simp only [Int.toNat_natCast, Int.natCast_nonneg, Int.ofNat_lt, hi, decide_true, Bool.and_self, cond_true, Option.bind_some, hid i hi, wsucc (show i < 4611686018427387904 by omega)]
      cases ((x.Nodes.f i).Role == 2) with
      | false => rfl
      | true =>
        rcases hI with h | ⟨h, h'⟩
        · subst h; rfl
        · have h1 : ¬ s < 0 := by omega
          have h2 : s.toNat < x.Nodes.n := by omega
          simp only [h1, h, h2, decide_true, decide_false, Bool.and_self, cond_true, cond_false, Option.bind_some, Bool.false_or, Bool.true_and]
          cases decide ((x.Nodes.f i).Term > (x.Nodes.f s.toNat).Term) <;> rfl)
    (fun i s s' hi h he => leadI_step i s s' x.Nodes.n hi h he)
    (fun s go _ => by unfold F_impl_Cluster_leader_B0; simp) x.Nodes.n 0 (-1) fu (by omega) (by omega) (.inl rfl)
  rw [show ((0 : Nat) : Int) = 0 from rfl] at h
  rw [h]
  cases hr : run (leadF x) x.Nodes.n 0 (-1) with
  | inl a =>
    exfalso
    have key : ∀ m i s, ∃ s', run (leadF x) m i s = .inr s' := by
      intro m
      induction m with
      | zero => intro i s; exact ⟨s, rfl⟩
      | succ m ih => intro i s; simp only [run, leadF]; exact ih _ _
    obtain ⟨s', hs⟩ := key x.Nodes.n 0 (-1)
    rw [hs] at hr; cases hr
  | inr s => rfl

theorem i_LeaderOf {fu : Nat} (hf : 2000000 ≤ fu) (x : S_impl_Cluster) (hx : CluLen x) : F_impl_LeaderOf fu x = some (bif clusf x != 0 then ⟨clusf x, 0⟩ else bif decide (leader x < 0) then ⟨4, 0⟩ else ⟨0, leader x⟩) := by
  unfold F_impl_LeaderOf
  simp only [i_ClusterFault hf x hx, Option.bind_some]
  cases h : (clusf x != 0) with
  | true => rfl
  | false =>
    simp only [cond_false, i_leader hf x hx (fun i hi => ((clus_good (x := x) (by simpa using h)).node i hi).2), Option.bind_some]
    cases decide (leader x < 0) <;> rfl

theorem plain_FnExactLeaderOf (x : S_laws_Cluster) (w : W_laws_Cluster x) : F_laws_FnExactLeaderOf plainFuel x = some true := by
  unfold F_laws_FnExactLeaderOf
  obtain ⟨y, h1, h2⟩ := sz_Cluster pf x w
  simp only [h1, Option.bind_some]
  rcases h2 with h | ⟨h, hx⟩
  · simp [h]
  · simp only [show ¬ y < 0 by omega, decide_false, cond_false, t_Cluster pf x hx, s_LeaderOf pf _ (toC_len hx), i_LeaderOf pf _ (toC_len hx), e_IntResult, e_Cluster pf _ (toC_len hx), Option.bind_some]
    simp

end Go.Proofs.Ytgdlionhnifajaa.Pc
