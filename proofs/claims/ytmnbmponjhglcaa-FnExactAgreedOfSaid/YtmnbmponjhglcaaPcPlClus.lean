/- Plain laws of clusters: ClusterFault. Conditions: none. -/
import Derived.Test.YtmnbmponjhglcaaPcPlMail
namespace Go.Proofs.Ytmnbmponjhglcaa.Pc
open Go Go.RowKit Go.Proofs Vm
set_option linter.unusedVariables false
set_option linter.unusedSimpArgs false
set_option maxRecDepth 100000

/-- A cluster whose lists are not long. -/
structure CluLen (x : S_impl_Cluster) : Prop where
  nodes : x.Nodes.n ≤ 1048576
  mails : x.Mails.n ≤ 1048576
  wins : x.Wins.n ≤ 1048576
  seals : x.Seals.n ≤ 1048576
  node : ∀ i, i < x.Nodes.n → NodeLen (x.Nodes.f i)
  mail : ∀ i, i < x.Mails.n → (x.Mails.f i).Entries.n ≤ 1048576

def place (x : S_impl_Cluster) (i : Int) : Bool := rng i 0 ((x.Nodes.n : Int) - 1)
theorem s_Place (fu : Nat) (x : S_impl_Cluster) (i : Int) (hx : x.Nodes.n ≤ 1048576) : F_spec_l9Place fu x i = some (place x i) := by
  unfold F_spec_l9Place place
  rw [wrap64 (by omega) (by omega)]
  simp [p_l1In]
theorem i_isPlace (fu : Nat) (x : S_impl_Cluster) (i : Int) (hx : x.Nodes.n ≤ 1048576) : F_impl_Cluster_isPlace fu x i = some (place x i) := by
  unfold F_impl_Cluster_isPlace place F_impl_size_impl_Node
  simp only [Option.bind_some]
  rw [wrap64 (by omega) (by omega)]
  simp [p_in]

def cluNode (x : S_impl_Cluster) (i : Nat) : Option Int := bif nodef (x.Nodes.f i) != 0 then some (nodef (x.Nodes.f i)) else bif ((x.Nodes.f i).Id != (i : Int)) || ((x.Nodes.f i).Peers != (x.Nodes.n : Int)) then some 1 else none
def cluMail (x : S_impl_Cluster) (i : Nat) : Option Int := bif !place x (x.Mails.f i).To then some 3 else bif mailf (x.Nodes.f (x.Mails.f i).To.toNat) (x.Mails.f i) != 0 then some (mailf (x.Nodes.f (x.Mails.f i).To.toNat) (x.Mails.f i)) else none
def cluWin (x : S_impl_Cluster) (i : Nat) : Option Int := bif !(rng (x.Wins.f i).Term 1 100000 && place x (x.Wins.f i).Node) then some 3 else none
def cluSeal (x : S_impl_Cluster) (i : Nat) : Option Int := bif !rng (x.Seals.f i).Term 1 100000 then some 3 else bif entf (x.Seals.f i).Entry != 0 then some (entf (x.Seals.f i).Entry) else none
/-- What is not right of a cluster. -/
def clusf (x : S_impl_Cluster) : Int :=
  bif (decide ((x.Nodes.n : Int) < 1) || (decide ((x.Nodes.n : Int) > 5) || decide ((x.Mails.n : Int) > 80))) then 2 else
  match scan (cluNode x) x.Nodes.n 0 with
  | some c => c
  | none =>
    match scan (cluMail x) x.Mails.n 0 with
    | some c => c
    | none =>
      bif (decide ((x.Wins.n : Int) > 400) || decide ((x.Seals.n : Int) > 40)) then 2 else
      match scan (cluWin x) x.Wins.n 0 with
      | some c => c
      | none => (scan (cluSeal x) x.Seals.n 0).getD 0

theorem or_b {γ : Type} (a b : Bool) (k : Bool → Option γ) : (((bif a then (some true) else (some b)) : Option Bool).bind k) = k (a || b) := by cases a <;> rfl

theorem s_ClusterFault0 {fu : Nat} (hf : 2000000 ≤ fu) (x : S_impl_Cluster) (hx : CluLen x) : F_spec_l9Fault fu x = some (clusf x) := by
  have hn := hx.nodes
  have hm := hx.mails
  have hw := hx.wins
  have hs := hx.seals
  unfold F_spec_l9Fault clusf
  have e0 : ((bif (decide (((x.Nodes.n : Nat) : Int) < 1)) then (some true) else (bif (decide (((x.Nodes.n : Nat) : Int) > 5)) then (some true) else (some (decide (((x.Mails.n : Nat) : Int) > 80))))) : Option Bool) = some (decide ((x.Nodes.n : Int) < 1) || (decide ((x.Nodes.n : Int) > 5) || decide ((x.Mails.n : Int) > 80))) := by
    cases decide (((x.Nodes.n : Nat) : Int) < 1) <;> cases decide (((x.Nodes.n : Nat) : Int) > 5) <;> rfl
  rw [e0]
  simp only [Option.bind_some, or_b]
  cases (decide ((x.Nodes.n : Int) < 1) || (decide ((x.Nodes.n : Int) > 5) || decide ((x.Mails.n : Int) > 80))) <;> (try rfl)
  simp only [cond_false]
  have l6 := L_scanE (ρ := Int) (B := fun w6 go6 => F_spec_l9Fault_B6 fu x.Nodes x.Mails x.Wins x.Seals (some 3) (fun z365 => (some z365)) (some 0) w6 go6) (fun i => (i : Int)) x.Seals.n (cluSeal x) (fun c => some c) (some 0)
    (fun i go hi => by
      unfold F_spec_l9Fault_B6 cluSeal
      simp only [Int.toNat_natCast, Int.natCast_nonneg, Int.ofNat_lt, hi, decide_true, Bool.and_self, cond_true, Option.bind_some, p_l1In, s_EntryFault, wsucc (show i < 4611686018427387904 by omega)]
      cases rng (x.Seals.f i).Term 1 100000 <;> cases (entf (x.Seals.f i).Entry != 0) <;> rfl)
    (fun go => by unfold F_spec_l9Fault_B6; simp) x.Seals.n 0 fu (by omega) (by omega)
  rw [show ((0 : Nat) : Int) = 0 from rfl] at l6
  rw [l6]
  have l4 := L_scanE (ρ := Int) (B := fun w4 go4 => F_spec_l9Fault_B4 fu x.Nodes x.Mails x.Wins x.Seals (some 3) ((scan (cluSeal x) x.Seals.n 0).elim (some 0) (fun c => some c)) w4 go4) (fun i => (i : Int)) x.Wins.n (cluWin x) (fun c => some c) ((scan (cluSeal x) x.Seals.n 0).elim (some 0) (fun c => some c))
    (fun i go hi => by
      unfold F_spec_l9Fault_B4 cluWin
      simp only [Int.toNat_natCast, Int.natCast_nonneg, Int.ofNat_lt, hi, decide_true, Bool.and_self, cond_true, Option.bind_some, p_l1In, s_Place fu x _ hn, wsucc (show i < 4611686018427387904 by omega)]
      cases rng (x.Wins.f i).Term 1 100000 <;> cases place x (x.Wins.f i).Node <;> rfl)
    (fun go => by unfold F_spec_l9Fault_B4; simp) x.Wins.n 0 fu (by omega) (by omega)
  rw [show ((0 : Nat) : Int) = 0 from rfl] at l4
  rw [l4]
  have l2 := L_scanE (ρ := Int) (B := fun w2 go2 => F_spec_l9Fault_B2 fu x.Nodes x.Mails x.Wins x.Seals (some 3) (fun z358 => (some z358)) (bif (decide ((x.Wins.n : Int) > 400) || decide ((x.Seals.n : Int) > 40)) then (some 2) else ((scan (cluWin x) x.Wins.n 0).elim (((scan (cluSeal x) x.Seals.n 0).elim (some 0) (fun c => some c))) (fun c => some c))) w2 go2) (fun i => (i : Int)) x.Mails.n (cluMail x) (fun c => some c) (bif (decide ((x.Wins.n : Int) > 400) || decide ((x.Seals.n : Int) > 40)) then (some 2) else ((scan (cluWin x) x.Wins.n 0).elim (((scan (cluSeal x) x.Seals.n 0).elim (some 0) (fun c => some c))) (fun c => some c)))
    (fun i go hi => by
      unfold F_spec_l9Fault_B2 cluMail
      simp only [Int.toNat_natCast, Int.natCast_nonneg, Int.ofNat_lt, hi, decide_true, Bool.and_self, cond_true, Option.bind_some, s_Place fu _ _ hn, wsucc (show i < 4611686018427387904 by omega)]
      cases hp : place x (x.Mails.f i).To with
      | false => rfl
      | true =>
        have hp' := hp
        unfold place rng at hp'
        simp only [Bool.and_eq_true, decide_eq_true_eq] at hp'
        have h1 : 0 ≤ (x.Mails.f i).To := hp'.1
        have h2 : (x.Mails.f i).To.toNat < x.Nodes.n := by omega
        simp only [Bool.not_true, cond_false, h1, h2, decide_true, Bool.and_self, cond_true, Option.bind_some, s_Mail0 hf _ _ (hx.mail i hi)]
        cases (mailf (x.Nodes.f (x.Mails.f i).To.toNat) (x.Mails.f i) != 0) <;> rfl)
    (fun go => by unfold F_spec_l9Fault_B2; simp) x.Mails.n 0 fu (by omega) (by omega)
  rw [show ((0 : Nat) : Int) = 0 from rfl] at l2
  rw [l2]
  have l0 := L_scanE (ρ := Int) (B := fun w0 go0 => F_spec_l9Fault_B0 fu x.Nodes x.Mails x.Wins x.Seals (fun z355 => (some z355)) (some 1) ((scan (cluMail x) x.Mails.n 0).elim ((bif (decide ((x.Wins.n : Int) > 400) || decide ((x.Seals.n : Int) > 40)) then (some 2) else ((scan (cluWin x) x.Wins.n 0).elim (((scan (cluSeal x) x.Seals.n 0).elim (some 0) (fun c => some c))) (fun c => some c)))) (fun c => some c)) w0 go0) (fun i => (i : Int)) x.Nodes.n (cluNode x) (fun c => some c) ((scan (cluMail x) x.Mails.n 0).elim ((bif (decide ((x.Wins.n : Int) > 400) || decide ((x.Seals.n : Int) > 40)) then (some 2) else ((scan (cluWin x) x.Wins.n 0).elim (((scan (cluSeal x) x.Seals.n 0).elim (some 0) (fun c => some c))) (fun c => some c)))) (fun c => some c))
    (fun i go hi => by
      unfold F_spec_l9Fault_B0 cluNode
      simp only [Int.toNat_natCast, Int.natCast_nonneg, Int.ofNat_lt, hi, decide_true, Bool.and_self, cond_true, Option.bind_some, s_NodeFault0 hf _ (hx.node i hi), wsucc (show i < 4611686018427387904 by omega)]
      cases (nodef (x.Nodes.f i) != 0) <;> cases ((x.Nodes.f i).Id != (i : Int)) <;> cases ((x.Nodes.f i).Peers != (x.Nodes.n : Int)) <;> rfl)
    (fun go => by unfold F_spec_l9Fault_B0; simp) x.Nodes.n 0 fu (by omega) (by omega)
  rw [show ((0 : Nat) : Int) = 0 from rfl] at l0
  rw [l0]
  cases scan (cluNode x) x.Nodes.n 0 <;> (try rfl)
  cases scan (cluMail x) x.Mails.n 0 <;> (try rfl)
  cases (decide ((x.Wins.n : Int) > 400) || decide ((x.Seals.n : Int) > 40)) <;> (try rfl)
  cases scan (cluWin x) x.Wins.n 0 <;> (try rfl)
  cases scan (cluSeal x) x.Seals.n 0 <;> rfl
theorem i_ClusterFault {fu : Nat} (hf : 2000000 ≤ fu) (x : S_impl_Cluster) (hx : CluLen x) : F_impl_ClusterFault fu x = some (clusf x) := by
  have hn := hx.nodes
  have hm := hx.mails
  have hw := hx.wins
  have hs := hx.seals
  unfold F_impl_ClusterFault clusf F_impl_size_impl_Node
  simp only [p_in, Option.bind_some]
  have e0 : ((bif (!rng ((x.Nodes.n : Nat) : Int) 1 5) then (some true) else (some (decide (((x.Mails.n : Nat) : Int) > 80)))) : Option Bool) = some (decide ((x.Nodes.n : Int) < 1) || (decide ((x.Nodes.n : Int) > 5) || decide ((x.Mails.n : Int) > 80))) := by
    have : (!rng ((x.Nodes.n : Nat) : Int) 1 5) = (decide ((x.Nodes.n : Int) < 1) || decide ((x.Nodes.n : Int) > 5)) := by
      unfold rng
      rw [Bool.eq_iff_iff]
      simp only [Bool.not_eq_true', Bool.and_eq_false_iff, decide_eq_false_iff_not, Bool.or_eq_true, decide_eq_true_eq]
      omega
    rw [this]
    cases decide (((x.Nodes.n : Nat) : Int) < 1) <;> cases decide (((x.Nodes.n : Nat) : Int) > 5) <;> rfl
  rw [e0]
  simp only [Option.bind_some, or_b]
  cases (decide ((x.Nodes.n : Int) < 1) || (decide ((x.Nodes.n : Int) > 5) || decide ((x.Mails.n : Int) > 80))) <;> (try rfl)
  simp only [cond_false]
  have l6 := L_scanE (ρ := Int) (B := fun w6 go6 => F_impl_ClusterFault_B6 fu x.Seals ((x.Seals.n : Nat) : Int) x.Nodes x.Mails x.Wins x.Seals (fun z423 z424 z425 z426 z427 z428 z429 z430 z431 z432 => (some 3)) (fun z433 z434 z435 z436 z437 z438 z439 z440 z441 z442 z443 => (some z433)) (some 0) w6 go6) (fun i => (i : Int)) x.Seals.n (cluSeal x) (fun c => some c) (some 0)
    (fun i go hi => by
      unfold F_impl_ClusterFault_B6 cluSeal
      simp only [Int.toNat_natCast, Int.natCast_nonneg, Int.ofNat_lt, hi, decide_true, Bool.and_self, cond_true, Option.bind_some, p_in, i_EntryFault, wsucc (show i < 4611686018427387904 by omega)]
      cases rng (x.Seals.f i).Term 1 100000 <;> cases (entf (x.Seals.f i).Entry != 0) <;> rfl)
    (fun go => by unfold F_impl_ClusterFault_B6; simp) x.Seals.n 0 fu (by omega) (by omega)
  rw [show ((0 : Nat) : Int) = 0 from rfl] at l6
  rw [l6]
  have l4 := L_scanE (ρ := Int) (B := fun w4 go4 => F_impl_ClusterFault_B4 fu x.Wins ((x.Wins.n : Nat) : Int) x.Nodes x.Mails x.Wins x.Seals (fun z419 z420 => (some 3)) ((scan (cluSeal x) x.Seals.n 0).elim (some 0) (fun c => some c)) w4 go4) (fun i => (i : Int)) x.Wins.n (cluWin x) (fun c => some c) ((scan (cluSeal x) x.Seals.n 0).elim (some 0) (fun c => some c))
    (fun i go hi => by
      unfold F_impl_ClusterFault_B4 cluWin
      simp only [Int.toNat_natCast, Int.natCast_nonneg, Int.ofNat_lt, hi, decide_true, Bool.and_self, cond_true, Option.bind_some, p_in, i_isPlace fu x _ hn, wsucc (show i < 4611686018427387904 by omega)]
      cases rng (x.Wins.f i).Term 1 100000 <;> cases place x (x.Wins.f i).Node <;> rfl)
    (fun go => by unfold F_impl_ClusterFault_B4; simp) x.Wins.n 0 fu (by omega) (by omega)
  rw [show ((0 : Nat) : Int) = 0 from rfl] at l4
  rw [l4]
  have l0 := fun (K : Option Int) => L_scanE (ρ := Int) (B := fun w0 go0 => F_impl_ClusterFault_B0 fu x.Nodes ((x.Nodes.n : Nat) : Int) x.Nodes x.Mails x.Wins x.Seals (fun z373 z374 z375 z376 z377 z378 z379 z380 z381 z382 z383 => (some z373)) (fun z384 z385 z386 z387 z388 z389 z390 z391 z392 z393 => (some 1)) K w0 go0) (fun i => (i : Int)) x.Nodes.n (cluNode x) (fun c => some c) K
    (fun i go hi => by
      unfold F_impl_ClusterFault_B0 cluNode F_impl_size_impl_Node
      simp only [Int.toNat_natCast, Int.natCast_nonneg, Int.ofNat_lt, hi, decide_true, Bool.and_self, cond_true, Option.bind_some, i_NodeFault hf _ (hx.node i hi), wsucc (show i < 4611686018427387904 by omega)]
      cases (nodef (x.Nodes.f i) != 0) <;> cases ((x.Nodes.f i).Id != (i : Int)) <;> cases ((x.Nodes.f i).Peers != (x.Nodes.n : Int)) <;> rfl)
    (fun go => by unfold F_impl_ClusterFault_B0; simp) x.Nodes.n 0 fu (by omega) (by omega)
  rw [show ((0 : Nat) : Int) = 0 from rfl] at l0
  rw [l0]
  cases hs0 : scan (cluNode x) x.Nodes.n 0 <;> (try rfl)
  have good : ∀ i, i < x.Nodes.n → nodef (x.Nodes.f i) = 0 := by
    intro i hi
    have := scan_none.1 hs0 i (by omega) (by omega)
    unfold cluNode at this
    cases hq : (nodef (x.Nodes.f i) != 0) with
    | true => rw [hq] at this; cases this
    | false => simpa using hq
  dsimp only
  have l2 := L_scanE (ρ := Int) (B := fun w2 go2 => F_impl_ClusterFault_B2 fu x.Mails ((x.Mails.n : Nat) : Int) x.Nodes x.Mails x.Wins x.Seals (fun z396 z397 z398 z399 z400 z401 z402 z403 z404 => (some 3)) (fun z405 z406 z407 z408 z409 z410 z411 z412 z413 z414 => (some z405)) (bif (decide ((x.Wins.n : Int) > 400) || decide ((x.Seals.n : Int) > 40)) then (some 2) else ((scan (cluWin x) x.Wins.n 0).elim (((scan (cluSeal x) x.Seals.n 0).elim (some 0) (fun c => some c))) (fun c => some c))) w2 go2) (fun i => (i : Int)) x.Mails.n (cluMail x) (fun c => some c) (bif (decide ((x.Wins.n : Int) > 400) || decide ((x.Seals.n : Int) > 40)) then (some 2) else ((scan (cluWin x) x.Wins.n 0).elim (((scan (cluSeal x) x.Seals.n 0).elim (some 0) (fun c => some c))) (fun c => some c)))
    (fun i go hi => by
      unfold F_impl_ClusterFault_B2 cluMail
      simp only [Int.toNat_natCast, Int.natCast_nonneg, Int.ofNat_lt, hi, decide_true, Bool.and_self, cond_true, Option.bind_some, i_isPlace fu _ _ hn, wsucc (show i < 4611686018427387904 by omega)]
      cases hp : place x (x.Mails.f i).To with
      | false => rfl
      | true =>
        have hp' := hp
        unfold place rng at hp'
        simp only [Bool.and_eq_true, decide_eq_true_eq] at hp'
        have h1 : 0 ≤ (x.Mails.f i).To := hp'.1
        have h2 : (x.Mails.f i).To.toNat < x.Nodes.n := by omega
        have e : mailF (x.Nodes.f (x.Mails.f i).To.toNat) (x.Mails.f i) = mailf (x.Nodes.f (x.Mails.f i).To.toNat) (x.Mails.f i) := by
          unfold mailF
          rw [good _ h2]; rfl
        simp only [Bool.not_true, cond_false, h1, h2, decide_true, Bool.and_self, cond_true, Option.bind_some, i_MailFault hf _ _ (hx.node _ h2) (hx.mail i hi), e]
        cases (mailf (x.Nodes.f (x.Mails.f i).To.toNat) (x.Mails.f i) != 0) <;> rfl)
    (fun go => by unfold F_impl_ClusterFault_B2; simp) x.Mails.n 0 fu (by omega) (by omega)
  rw [show ((0 : Nat) : Int) = 0 from rfl] at l2
  rw [l2]
  cases scan (cluMail x) x.Mails.n 0 <;> (try rfl)
  cases (decide ((x.Wins.n : Int) > 400) || decide ((x.Seals.n : Int) > 40)) <;> (try rfl)
  cases scan (cluWin x) x.Wins.n 0 <;> (try rfl)
  cases scan (cluSeal x) x.Seals.n 0 <;> rfl

end Go.Proofs.Ytmnbmponjhglcaa.Pc
