/- Plain laws of clusters: ClusterFault, OneLeader, LeadersHave, LeaderOf. Conditions: none. -/
import Derived.Test.YtnfippmeficfjaaPcPlClus2
namespace Go.Proofs.Ytnfippmeficfjaa.Pc
open Go Go.RowKit Go.Proofs Vm
set_option linter.unusedVariables false
set_option linter.unusedSimpArgs false
set_option maxRecDepth 100000

/-! ### OneLeader -/

def oneB (x : S_impl_Cluster) (i k : Nat) : Bool := ((x.Wins.f i).Term == (x.Wins.f k).Term) && ((x.Wins.f i).Node != (x.Wins.f k).Node)
def one (x : S_impl_Cluster) : Bool := allb x.Wins.n (fun i => allb i (fun k => !oneB x i k))

theorem s_One {fu : Nat} (hf : 2000000 ≤ fu) (x : S_impl_Cluster) (hx : x.Wins.n ≤ 1048576) : F_spec_l10One fu x = some (one x) := by
  unfold F_spec_l10One one
  have h := L_all0 (ρ := Bool) (B := fun w0 go0 => F_spec_l10One_B0 fu x.Nodes x.Mails x.Wins x.Seals (some false) (some true) w0 go0) (fun i => (i : Int)) x.Wins.n (fun i => !allb i (fun k => !oneB x i k)) (some false) (some true)
    (fun i go hi => by
      unfold F_spec_l10One_B0
      simp only [Int.ofNat_lt, hi, decide_true, cond_true, wsucc (show i < 4611686018427387904 by omega)]
      have h2 := L_all0 (ρ := Bool) (B := fun w2 go2 => F_spec_l10One_B2 fu x.Nodes x.Mails x.Wins x.Seals (i : Int) (some false) (go ((i + 1 : Nat) : Int)) w2 go2) (fun k => (k : Int)) i (fun k => oneB x i k) (some false) (go ((i + 1 : Nat) : Int))
        (fun k go2 hk => by
          unfold F_spec_l10One_B2 oneB
          have hkn : k < x.Wins.n := by omega
          simp only [Int.toNat_natCast, Int.natCast_nonneg, Int.ofNat_lt, hi, hk, hkn, decide_true, Bool.and_self, cond_true, Option.bind_some, wsucc (show k < 4611686018427387904 by omega)]
          cases ((x.Wins.f i).Term == (x.Wins.f k).Term) <;> rfl)
        (fun go2 => by unfold F_spec_l10One_B2; simp) fu (by omega)
      rw [show ((0 : Nat) : Int) = 0 from rfl] at h2
      rw [h2]
      cases allb i (fun k => !oneB x i k) <;> rfl)
    (fun go => by unfold F_spec_l10One_B0; simp) fu (by omega)
  rw [show ((0 : Nat) : Int) = 0 from rfl] at h
  rw [h]
  simp only [Bool.not_not]
  cases allb x.Wins.n (fun i => allb i (fun k => !oneB x i k)) <;> rfl

theorem i_One {fu : Nat} (hf : 2000000 ≤ fu) (x : S_impl_Cluster) (hx : x.Wins.n ≤ 1048576) : F_impl_Cluster_oneLeader fu x = some (one x) := by
  unfold F_impl_Cluster_oneLeader one
  have h := L_all0 (ρ := Bool) (B := fun w0 go0 => F_impl_Cluster_oneLeader_B0 fu x.Nodes x.Mails x.Wins x.Seals x.Wins ((x.Wins.n : Nat) : Int) (fun z472 z473 z474 z475 => (some false)) (some true) w0 go0) (fun i => (i : Int)) x.Wins.n (fun i => !allb i (fun k => !oneB x i k)) (some false) (some true)
    (fun i go hi => by
      unfold F_impl_Cluster_oneLeader_B0
      have hi' : i ≤ x.Wins.n := by omega
      simp only [Int.toNat_natCast, Int.natCast_nonneg, Int.ofNat_lt, hi, hi', decide_true, Bool.and_self, cond_true, Option.bind_some, Nat.sub_zero, wsucc (show i < 4611686018427387904 by omega)]
      have h2 := L_all0 (ρ := Bool) (B := fun w2 go2 => F_impl_Cluster_oneLeader_B2 fu x.Nodes x.Mails x.Wins x.Seals x.Wins ((x.Wins.n : Nat) : Int) (i : Int) (⟨x.Wins.z, i, (fun i => x.Wins.f (0 + i))⟩ : (Sl S_impl_Won)) ((i : Nat) : Int) ((x.Wins.f i).Term) ((x.Wins.f i).Node) (fun z470 z471 => (some false)) (go ((i + 1 : Nat) : Int)) w2 go2) (fun k => (k : Int)) i (fun k => oneB x i k) (some false) (go ((i + 1 : Nat) : Int))
        (fun k go2 hk => by
          unfold F_impl_Cluster_oneLeader_B2 oneB
          simp only [Int.toNat_natCast, Int.natCast_nonneg, Int.ofNat_lt, hk, decide_true, Bool.and_self, cond_true, Option.bind_some, Nat.zero_add, wsucc (show k < 4611686018427387904 by omega)]
          cases ((x.Wins.f i).Term == (x.Wins.f k).Term) <;> rfl)
        (fun go2 => by unfold F_impl_Cluster_oneLeader_B2; simp) fu (by omega)
      rw [show ((0 : Nat) : Int) = 0 from rfl] at h2
      rw [h2]
      cases allb i (fun k => !oneB x i k) <;> rfl)
    (fun go => by unfold F_impl_Cluster_oneLeader_B0; simp) fu (by omega)
  rw [show ((0 : Nat) : Int) = 0 from rfl] at h
  rw [h]
  simp only [Bool.not_not]
  cases allb x.Wins.n (fun i => allb i (fun k => !oneB x i k)) <;> rfl

/-! ### LeadersHave -/

def haveB (x : S_impl_Cluster) (i k : Nat) : Bool := decide ((x.Seals.f k).Term ≤ (x.Nodes.f i).Term) && (decide ((k : Int) ≥ ((x.Nodes.f i).Log.n : Int)) || !eqE ((x.Nodes.f i).Log.f k) (x.Seals.f k).Entry)
def have1 (x : S_impl_Cluster) (i : Nat) : Bool := ((x.Nodes.f i).Role != 2) || allb x.Seals.n (fun k => !haveB x i k)
def have' (x : S_impl_Cluster) : Bool := allb x.Nodes.n (have1 x)

theorem s_Have {fu : Nat} (hf : 2000000 ≤ fu) (x : S_impl_Cluster) (hx : x.Nodes.n ≤ 1048576) (hs : x.Seals.n ≤ 1048576) : F_spec_l10Have fu x = some (have' x) := by
  unfold F_spec_l10Have have'
  have h := L_all0 (ρ := Bool) (B := fun w0 go0 => F_spec_l10Have_B0 fu x.Nodes x.Mails x.Wins x.Seals (some false) (some true) w0 go0) (fun i => (i : Int)) x.Nodes.n (fun i => !have1 x i) (some false) (some true)
    (fun i go hi => by
      unfold F_spec_l10Have_B0 have1
      simp only [Int.toNat_natCast, Int.natCast_nonneg, Int.ofNat_lt, hi, decide_true, Bool.and_self, cond_true, Option.bind_some, wsucc (show i < 4611686018427387904 by omega)]
      cases ((x.Nodes.f i).Role != 2) with
      | true => rfl
      | false =>
        simp only [cond_false, Bool.false_or]
        have h2 := L_all0 (ρ := Bool) (B := fun w2 go2 => F_spec_l10Have_B2 fu x.Nodes x.Mails x.Wins x.Seals (i : Int) ((x.Nodes.f i).Id) ((x.Nodes.f i).Peers) ((x.Nodes.f i).Term) ((x.Nodes.f i).Voted) ((x.Nodes.f i).Log) ((x.Nodes.f i).Role) ((x.Nodes.f i).Commit) ((x.Nodes.f i).Votes) ((x.Nodes.f i).Next) ((x.Nodes.f i).Match) (some false) (go ((i + 1 : Nat) : Int)) w2 go2) (fun k => (k : Int)) x.Seals.n (fun k => haveB x i k) (some false) (go ((i + 1 : Nat) : Int))
          (fun k go2 hk => by
            unfold F_spec_l10Have_B2 haveB
            simp only [Int.toNat_natCast, Int.natCast_nonneg, Int.ofNat_lt, hk, decide_true, Bool.and_self, cond_true, Option.bind_some, wsucc (show k < 4611686018427387904 by omega)]
            cases decide ((x.Seals.f k).Term ≤ (x.Nodes.f i).Term) with
            | false => rfl
            | true =>
              by_cases hg : (k : Int) ≥ ((x.Nodes.f i).Log.n : Int)
              · simp only [hg, decide_true, cond_true, Option.bind_some, Bool.true_or, Bool.and_self]
              · have hk' : k < (x.Nodes.f i).Log.n := by omega
                simp only [hg, hk', decide_true, decide_false, cond_true, cond_false, Option.bind_some, Bool.false_or, Bool.true_and]
                show (bif (!eqE ((x.Nodes.f i).Log.f k) (x.Seals.f k).Entry) then _ else _) = _
                rfl)
          (fun go2 => by unfold F_spec_l10Have_B2; simp) fu (by omega)
        rw [show ((0 : Nat) : Int) = 0 from rfl] at h2
        rw [h2]
        cases allb x.Seals.n (fun k => !haveB x i k) <;> rfl)
    (fun go => by unfold F_spec_l10Have_B0; simp) fu (by omega)
  rw [show ((0 : Nat) : Int) = 0 from rfl] at h
  rw [h]
  simp only [Bool.not_not]
  show (bif allb x.Nodes.n (have1 x) then _ else _) = _
  cases allb x.Nodes.n (have1 x) <;> rfl

theorem i_Have {fu : Nat} (hf : 2000000 ≤ fu) (x : S_impl_Cluster) (hx : x.Nodes.n ≤ 1048576) (hs : x.Seals.n ≤ 1048576) : F_impl_Cluster_leadersHave fu x = some (have' x) := by
  unfold F_impl_Cluster_leadersHave have'
  have h := L_all0 (ρ := Bool) (B := fun w0 go0 => F_impl_Cluster_leadersHave_B0 fu x.Nodes x.Mails x.Wins x.Seals x.Nodes ((x.Nodes.n : Nat) : Int) (fun z501 z502 z503 z504 z505 z506 z507 z508 z509 z510 z511 z512 z513 z514 z515 z516 z517 z518 z519 z520 => (some false)) (some true) w0 go0) (fun i => (i : Int)) x.Nodes.n (fun i => !have1 x i) (some false) (some true)
    (fun i go hi => by
      unfold F_impl_Cluster_leadersHave_B0 have1
      simp only [Int.toNat_natCast, Int.natCast_nonneg, Int.ofNat_lt, hi, decide_true, Bool.and_self, cond_true, Option.bind_some, wsucc (show i < 4611686018427387904 by omega)]
      cases ((x.Nodes.f i).Role != 2) with
      | true => rfl
      | false =>
        simp only [cond_false, Bool.false_or]
        have h2 := L_all0 (ρ := Bool) (B := fun w2 go2 => F_impl_Cluster_leadersHave_B2 fu x.Nodes x.Mails x.Wins x.Seals x.Nodes ((x.Nodes.n : Nat) : Int) (i : Int) x.Seals ((x.Seals.n : Nat) : Int) ((x.Nodes.f i).Id) ((x.Nodes.f i).Peers) ((x.Nodes.f i).Term) ((x.Nodes.f i).Voted) ((x.Nodes.f i).Log) ((x.Nodes.f i).Role) ((x.Nodes.f i).Commit) ((x.Nodes.f i).Votes) ((x.Nodes.f i).Next) ((x.Nodes.f i).Match) (fun z491 z492 z493 z494 z495 z496 z497 z498 z499 z500 => (some false)) (go ((i + 1 : Nat) : Int)) w2 go2) (fun k => (k : Int)) x.Seals.n (fun k => haveB x i k) (some false) (go ((i + 1 : Nat) : Int))
          (fun k go2 hk => by
            unfold F_impl_Cluster_leadersHave_B2 haveB
            simp only [Int.toNat_natCast, Int.natCast_nonneg, Int.ofNat_lt, hk, decide_true, Bool.and_self, cond_true, Option.bind_some, wsucc (show k < 4611686018427387904 by omega)]
            cases decide ((x.Seals.f k).Term ≤ (x.Nodes.f i).Term) with
            | false => rfl
            | true =>
              by_cases hg : (k : Int) ≥ ((x.Nodes.f i).Log.n : Int)
              · simp only [hg, decide_true, cond_true, Option.bind_some, Bool.true_or, Bool.and_self]
              · have hk' : k < (x.Nodes.f i).Log.n := by omega
                simp only [hg, hk', decide_true, decide_false, cond_true, cond_false, Option.bind_some, Bool.false_or, Bool.true_and]
                show (bif (!eqE ((x.Nodes.f i).Log.f k) (x.Seals.f k).Entry) then _ else _) = _
                rfl)
          (fun go2 => by unfold F_impl_Cluster_leadersHave_B2; simp) fu (by omega)
        rw [show ((0 : Nat) : Int) = 0 from rfl] at h2
        rw [h2]
        cases allb x.Seals.n (fun k => !haveB x i k) <;> rfl)
    (fun go => by unfold F_impl_Cluster_leadersHave_B0; simp) fu (by omega)
  rw [show ((0 : Nat) : Int) = 0 from rfl] at h
  rw [h]
  simp only [Bool.not_not]
  show (bif allb x.Nodes.n (have1 x) then _ else _) = _
  cases allb x.Nodes.n (have1 x) <;> rfl

/-! ### LeaderOf -/

def leadC (x : S_impl_Cluster) (i : Nat) (s : Int) : Bool := ((x.Nodes.f i).Role == 2) && (decide (s < 0) || decide ((x.Nodes.f i).Term > (x.Nodes.f s.toNat).Term))
def leadF (x : S_impl_Cluster) (i : Nat) (s : Int) : Sum Unit Int := .inr (bif leadC x i s then (i : Int) else s)
def leadI (i : Nat) (s : Int) : Prop := s = -1 ∨ (0 ≤ s ∧ s < (i : Int))
theorem leadI_step {x : S_impl_Cluster} (i : Nat) (s s' : Int) (n : Nat) (hi : i < n) (h : leadI i s) (he : leadF x i s = .inr s') : leadI (i + 1) s' := by
  unfold leadF at he
  have he := Sum.inr.inj he
  subst he
  unfold leadI at h ⊢
  cases leadC x i s
  · rcases h with h | h
    · exact .inl h
    · right; simp only [cond_false]; omega
  · right; simp only [cond_true]; omega

def leader (x : S_impl_Cluster) : Int := match run (leadF x) x.Nodes.n 0 (-1) with | .inl _ => 0 | .inr s => s

end Go.Proofs.Ytnfippmeficfjaa.Pc
