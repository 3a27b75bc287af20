/- Plain laws of clusters: ClusterFault, as a law; what a good cluster has. Conditions: none. -/
import Derived.Test.YtmnbmponjhglcaaPcPlClus
namespace Go.Proofs.Ytmnbmponjhglcaa.Pc
open Go Go.RowKit Go.Proofs Vm
set_option linter.unusedVariables false
set_option linter.unusedSimpArgs false
set_option maxRecDepth 100000

theorem scan_some {α : Type} {f : Nat → Option α} {a : α} : ∀ {m i : Nat}, scan f m i = some a → ∃ j, i ≤ j ∧ j < i + m ∧ f j = some a
  | 0, i, h => by simp [scan_zero] at h
  | m + 1, i, h => by
    rw [scan_succ] at h
    cases hq : f i with
    | some b =>
      rw [hq] at h
      have h := Option.some.inj h; subst h
      exact ⟨i, Nat.le_refl _, by omega, hq⟩
    | none =>
      rw [hq] at h
      obtain ⟨j, h1, h2, h3⟩ := scan_some h
      exact ⟨j, by omega, by omega, h3⟩

/-- What a good cluster has. -/
structure CluGood (x : S_impl_Cluster) : Prop where
  nodes : x.Nodes.n ≤ 5
  wins : x.Wins.n ≤ 400
  seals : x.Seals.n ≤ 40
  node : ∀ i, i < x.Nodes.n → nodef (x.Nodes.f i) = 0 ∧ (x.Nodes.f i).Id = (i : Int)

theorem clus_good {x : S_impl_Cluster} (h : clusf x = 0) : CluGood x := by
  unfold clusf at h
  cases h1 : (decide ((x.Nodes.n : Int) < 1) || (decide ((x.Nodes.n : Int) > 5) || decide ((x.Mails.n : Int) > 80))) with
  | true => rw [h1] at h; cases h
  | false =>
    rw [h1] at h
    simp only [Bool.or_eq_false_iff, decide_eq_false_iff_not] at h1
    simp only [cond_false] at h
    cases h2 : scan (cluNode x) x.Nodes.n 0 with
    | some c =>
      rw [h2] at h
      dsimp only at h
      obtain ⟨j, _, _, hj⟩ := scan_some h2
      unfold cluNode at hj
      subst h
      cases hq : (nodef (x.Nodes.f j) != 0) with
      | true =>
        rw [hq] at hj
        have := Option.some.inj hj
        rw [this] at hq; simp at hq
      | false =>
        rw [hq] at hj
        cases hr : ((x.Nodes.f j).Id != (j : Int)) || ((x.Nodes.f j).Peers != (x.Nodes.n : Int)) <;> rw [hr] at hj <;> cases hj
    | none =>
      rw [h2] at h
      dsimp only at h
      have hn : ∀ i, i < x.Nodes.n → nodef (x.Nodes.f i) = 0 ∧ (x.Nodes.f i).Id = (i : Int) := by
        intro i hi
        have := scan_none.1 h2 i (by omega) (by omega)
        unfold cluNode at this
        cases hq : (nodef (x.Nodes.f i) != 0) with
        | true => rw [hq] at this; cases this
        | false =>
          rw [hq] at this
          cases hr : ((x.Nodes.f i).Id != (i : Int)) with
          | true => rw [hr] at this; cases this
          | false => exact ⟨by simpa using hq, by simpa using hr⟩
      cases h3 : scan (cluMail x) x.Mails.n 0 with
      | some c =>
        rw [h3] at h
        dsimp only at h
        obtain ⟨j, _, _, hj⟩ := scan_some h3
        unfold cluMail at hj
        subst h
        cases hq : place x (x.Mails.f j).To with
        | false => rw [hq] at hj; cases hj
        | true =>
          rw [hq] at hj
          cases hr : (mailf (x.Nodes.f (x.Mails.f j).To.toNat) (x.Mails.f j) != 0) with
          | false => rw [hr] at hj; cases hj
          | true =>
            rw [hr] at hj
            have := Option.some.inj hj
            rw [this] at hr; simp at hr
      | none =>
        rw [h3] at h
        dsimp only at h
        cases h4 : (decide ((x.Wins.n : Int) > 400) || decide ((x.Seals.n : Int) > 40)) with
        | true => rw [h4] at h; cases h
        | false =>
          simp only [Bool.or_eq_false_iff, decide_eq_false_iff_not] at h4
          exact ⟨by omega, by omega, by omega, hn⟩

theorem nodef_log {x : S_impl_Node} (h : nodef x = 0) : x.Log.n ≤ 40 := by
  unfold nodef at h
  cases h1 : head x <;> rw [h1] at h
  · cases h
  · simp only [Bool.not_true, cond_false] at h
    cases h2 : (logf x.Log != 0) with
    | true => rw [h2] at h; simp only [cond_true] at h; rw [h] at h2; simp at h2
    | false => exact logf_len (by simpa using h2)

/-! ### The law's cluster -/

structure CluLen' (x : S_laws_Cluster) : Prop where
  nodes : x.Nodes.n ≤ 1048576
  mails : x.Mails.n ≤ 1048576
  wins : x.Wins.n ≤ 1048576
  seals : x.Seals.n ≤ 1048576
  node : ∀ i, i < x.Nodes.n → NodeLen' (x.Nodes.f i)
  mail : ∀ i, i < x.Mails.n → (x.Mails.f i).Entries.n ≤ 1048576

/-- A loop that takes what is left, element by element. -/
theorem sz_loop {ρ : Type} (n : Nat) (B : Int × Int → (Int × Int → Option ρ) → Option ρ) (good : Nat → Prop) (k0 k1 : Int → Option ρ)
    (h1 : ∀ (i : Nat) (l : Int) go, i < n → 0 ≤ l → l ≤ 1048576 → ∃ y, Szd l y (good i) ∧ B (l, (i : Int)) go = bif decide (y < 0) then k0 y else go (y, ((i + 1 : Nat) : Int))) (h2 : ∀ l go, B (l, (n : Int)) go = k1 l) :
    ∀ (m i : Nat) (l : Int) (fu : Nat), i + m = n → m < fu → 0 ≤ l → l ≤ 1048576 → (∃ y, y < 0 ∧ L B fu (l, (i : Int)) = k0 y) ∨ (∃ y, 0 ≤ y ∧ y ≤ l ∧ (∀ j, i ≤ j → j < n → good j) ∧ L B fu (l, (i : Int)) = k1 y)
  | 0, i, l, fu, hi, hf, hl, hl' => by
    obtain ⟨fu, rfl⟩ : ∃ k, fu = k + 1 := ⟨fu - 1, by omega⟩
    have : i = n := by omega
    subst this
    exact .inr ⟨l, hl, Int.le_refl _, fun j h1 h2 => by omega, by simp only [L, h2]⟩
  | m + 1, i, l, fu, hi, hf, hl, hl' => by
    obtain ⟨fu, rfl⟩ : ∃ k, fu = k + 1 := ⟨fu - 1, by omega⟩
    obtain ⟨y, hy, hB⟩ := h1 i l (L B fu) (by omega) hl hl'
    simp only [L, hB]
    rcases hy.neg with hn | ⟨hp, hpl, hg⟩
    · exact .inl ⟨y, hn, by simp [hn]⟩
    · simp only [show ¬ y < 0 by omega, decide_false, cond_false]
      rcases sz_loop n B good k0 k1 h1 h2 m (i + 1) y fu (by omega) (by omega) hp (by omega) with ⟨z, hz, he⟩ | ⟨z, hz, hzl, hall, he⟩
      · exact .inl ⟨z, hz, he⟩
      · refine .inr ⟨z, hz, by omega, fun j h1 h2 => ?_, he⟩
        by_cases hj : j = i
        · subst hj; exact hg
        · exact hall j (by omega) h2

theorem sz_NodeS {fu : Nat} (hf : 2000000 ≤ fu) (x : Sl S_laws_Node) (hw : W_sl_laws_Node x) {left : Int} (h0 : 0 ≤ left) (h1 : left ≤ 1048576) : ∃ y, F_laws_szNodeS fu x left = some y ∧ Szd left y (x.n ≤ 1048576 ∧ ∀ i, i < x.n → NodeLen' (x.f i)) := by
  unfold F_laws_szNodeS
  have e : ∀ (k : Option Int), (bif (decide ((IntKind.wrap .i64 (left - ((x.n : Nat) : Int))) < 0)) then (some (-1)) else k) = (bif decide (szf left x.n < 0) then some (-1) else k) := by
    intro k
    unfold szf
    by_cases h : IntKind.wrap .i64 (left - (x.n : Int)) < 0 <;> simp [h]
  rw [e]
  rcases (sz_one h0 h1 hw.1).neg with a | ⟨a1, a2, a3⟩
  · exact ⟨-1, by simp [a], ⟨.inl (by omega)⟩⟩
  · have e2 : IntKind.wrap .i64 (left - ((x.n : Nat) : Int)) = szf left x.n := by
      unfold szf at a1 ⊢
      split at a1
      · omega
      · rename_i h; rw [if_neg h]
    rw [e2]
    simp only [show ¬ szf left x.n < 0 by omega, decide_false, cond_false]
    rcases sz_loop (ρ := Int) x.n (fun w0 go0 => F_laws_szNodeS_B0 fu x (fun z333 => (some (-1))) (fun z334 => (some z334)) w0.1 w0.2 (fun q0 q1 => go0 (q0, q1))) (fun i => NodeLen' (x.f i)) (fun _ => some (-1)) (fun l => some l)
      (fun i l go hi hl hl' => by
        obtain ⟨y, hy, hz⟩ := sz_Node fu (x.f i) (hw.2 i hi) hl hl'
        refine ⟨y, hz, ?_⟩
        unfold F_laws_szNodeS_B0
        simp only [Int.toNat_natCast, Int.natCast_nonneg, Int.ofNat_lt, hi, decide_true, Bool.and_self, cond_true, Option.bind_some, hy, wsucc (show i < 4611686018427387904 by omega)])
      (fun l go => by unfold F_laws_szNodeS_B0; simp) x.n 0 (szf left x.n) fu (by omega) (by omega) a1 (by omega) with ⟨y, hy, he⟩ | ⟨y, hy, hyl, hall, he⟩
    · exact ⟨-1, he, ⟨.inl (by omega)⟩⟩
    · exact ⟨y, he, ⟨.inr ⟨hy, by omega, a3, fun i hi => hall i (by omega) hi⟩⟩⟩

theorem sz_MailS {fu : Nat} (hf : 2000000 ≤ fu) (x : Sl S_laws_Mail) (hw : W_sl_laws_Mail x) {left : Int} (h0 : 0 ≤ left) (h1 : left ≤ 1048576) : ∃ y, F_laws_szMailS fu x left = some y ∧ Szd left y (x.n ≤ 1048576 ∧ ∀ i, i < x.n → (x.f i).Entries.n ≤ 1048576) := by
  unfold F_laws_szMailS
  have e : ∀ (k : Option Int), (bif (decide ((IntKind.wrap .i64 (left - ((x.n : Nat) : Int))) < 0)) then (some (-1)) else k) = (bif decide (szf left x.n < 0) then some (-1) else k) := by
    intro k
    unfold szf
    by_cases h : IntKind.wrap .i64 (left - (x.n : Int)) < 0 <;> simp [h]
  rw [e]
  rcases (sz_one h0 h1 hw.1).neg with a | ⟨a1, a2, a3⟩
  · exact ⟨-1, by simp [a], ⟨.inl (by omega)⟩⟩
  · have e2 : IntKind.wrap .i64 (left - ((x.n : Nat) : Int)) = szf left x.n := by
      unfold szf at a1 ⊢
      split at a1
      · omega
      · rename_i h; rw [if_neg h]
    rw [e2]
    simp only [show ¬ szf left x.n < 0 by omega, decide_false, cond_false]
    rcases sz_loop (ρ := Int) x.n (fun w0 go0 => F_laws_szMailS_B0 fu x (fun z336 => (some (-1))) (fun z337 => (some z337)) w0.1 w0.2 (fun q0 q1 => go0 (q0, q1))) (fun i => (x.f i).Entries.n ≤ 1048576) (fun _ => some (-1)) (fun l => some l)
      (fun i l go hi hl hl' => by
        obtain ⟨y, hy, hz⟩ := sz_Mail fu (x.f i) (hw.2 i hi) hl hl'
        refine ⟨y, hz, ?_⟩
        unfold F_laws_szMailS_B0
        simp only [Int.toNat_natCast, Int.natCast_nonneg, Int.ofNat_lt, hi, decide_true, Bool.and_self, cond_true, Option.bind_some, hy, wsucc (show i < 4611686018427387904 by omega)])
      (fun l go => by unfold F_laws_szMailS_B0; simp) x.n 0 (szf left x.n) fu (by omega) (by omega) a1 (by omega) with ⟨y, hy, he⟩ | ⟨y, hy, hyl, hall, he⟩
    · exact ⟨-1, he, ⟨.inl (by omega)⟩⟩
    · exact ⟨y, he, ⟨.inr ⟨hy, by omega, a3, fun i hi => hall i (by omega) hi⟩⟩⟩

theorem sz_WonS (fu : Nat) (x : Sl S_impl_Won) (left : Int) : F_laws_szWonS fu x left = some (szf left x.n) := by
  unfold F_laws_szWonS szf
  by_cases h : IntKind.wrap .i64 (left - (x.n : Int)) < 0 <;> simp [h]
theorem sz_SealS (fu : Nat) (x : Sl S_laws_Seal) (left : Int) : F_laws_szSealS fu x left = some (szf left x.n) := by
  unfold F_laws_szSealS szf
  by_cases h : IntKind.wrap .i64 (left - (x.n : Int)) < 0 <;> simp [h]

theorem sz_Cluster {fu : Nat} (hf : 2000000 ≤ fu) (x : S_laws_Cluster) (hw : W_laws_Cluster x) : ∃ y, F_laws_szCluster fu x 1048576 = some y ∧ (y < 0 ∨ (0 ≤ y ∧ CluLen' x)) := by
  obtain ⟨w1, w2, w3, w4⟩ := hw
  unfold F_laws_szCluster
  obtain ⟨y1, e1, s1⟩ := sz_NodeS hf x.Nodes w1 (left := 1048576) (by omega) (by omega)
  simp only [e1, Option.bind_some]
  rcases s1.neg with a | ⟨a1, a2, a3, a4⟩
  · exact ⟨-1, by simp [a], .inl (by omega)⟩
  · simp only [show ¬ y1 < 0 by omega, decide_false, cond_false]
    obtain ⟨y2, e2, s2⟩ := sz_MailS hf x.Mails w2 (left := y1) a1 a2
    simp only [e2, Option.bind_some]
    rcases s2.neg with b | ⟨b1, b2, b3, b4⟩
    · exact ⟨-1, by simp [b], .inl (by omega)⟩
    · simp only [show ¬ y2 < 0 by omega, decide_false, cond_false, sz_WonS, sz_SealS, Option.bind_some]
      rcases (sz_one b1 (by omega) w3.1).neg with c | ⟨c1, c2, c3⟩
      · exact ⟨-1, by simp [c], .inl (by omega)⟩
      · simp only [show ¬ szf y2 x.Wins.n < 0 by omega, decide_false, cond_false]
        rcases (sz_one c1 (by omega) w4.1).neg with d | ⟨d1, d2, d3⟩
        · exact ⟨-1, by simp [d], .inl (by omega)⟩
        · simp only [show ¬ szf (szf y2 x.Wins.n) x.Seals.n < 0 by omega, decide_false, cond_false]
          exact ⟨_, rfl, .inr ⟨d1, a3, b3, c3, d3, a4, b4⟩⟩

def d_Node : S_impl_Node := ⟨0, 0, 0, 0, ⟨some true, 0, fun _ => dflt .impl_Entry⟩, 0, 0, ⟨some true, 0, fun _ => dflt .i64⟩, ⟨some true, 0, fun _ => dflt .i64⟩, ⟨some true, 0, fun _ => dflt .i64⟩⟩
def d_Mail : S_impl_Mail := ⟨0, 0, 0, 0, 0, 0, 0, false, ⟨some true, 0, fun _ => dflt .impl_Entry⟩⟩
def toS (x : S_laws_Seal) : S_impl_Seal := ⟨x.Term, toE x.Entry⟩
def toC (x : S_laws_Cluster) : S_impl_Cluster := ⟨cp toN d_Node x.Nodes, cp toM d_Mail x.Mails, cp id ⟨0, 0⟩ x.Wins, cp toS ⟨0, d_Entry⟩ x.Seals⟩
theorem toC_len {x : S_laws_Cluster} (h : CluLen' x) : CluLen (toC x) := ⟨h.nodes, h.mails, h.wins, h.seals, fun i hi => by
    have hi : i < x.Nodes.n := hi
    show NodeLen (if i < x.Nodes.n then toN (x.Nodes.f i) else d_Node)
    rw [if_pos hi]
    exact toN_len (h.node i hi), fun i hi => by
    have hi : i < x.Mails.n := hi
    show (if i < x.Mails.n then toM (x.Mails.f i) else d_Mail).Entries.n ≤ 1048576
    rw [if_pos hi]
    exact h.mail i hi⟩

theorem e_NodeS {fu : Nat} (hf : 2000000 ≤ fu) (x : Sl S_impl_Node) (hx : x.n ≤ 1048576) (he : ∀ i, i < x.n → NodeLen (x.f i)) : F_laws_eqNodeS fu x x = some true := by
  unfold F_laws_eqNodeS
  simp only [bne_self_eq_false, cond_false]
  have h := L_scan (α := Unit) (B := fun w0 go0 => F_laws_eqNodeS_B0 fu x x (some false) (some true) w0 go0) (fun i => (i : Int)) x.n (fun _ => none) (fun _ => none) (some true)
    (fun i go hi => by
      unfold F_laws_eqNodeS_B0
      simp [hi, wsucc (show i < 4611686018427387904 by omega), e_Node hf (x.f i) (he i hi)])
    (fun go => by unfold F_laws_eqNodeS_B0; simp) x.n 0 fu (by omega) (by omega)
  rw [scan_all_none x.n _ (fun _ _ => rfl)] at h
  simpa using h
theorem e_MailS {fu : Nat} (hf : 2000000 ≤ fu) (x : Sl S_impl_Mail) (hx : x.n ≤ 1048576) (he : ∀ i, i < x.n → (x.f i).Entries.n ≤ 1048576) : F_laws_eqMailS fu x x = some true := by
  unfold F_laws_eqMailS
  simp only [bne_self_eq_false, cond_false]
  have h := L_scan (α := Unit) (B := fun w0 go0 => F_laws_eqMailS_B0 fu x x (some false) (some true) w0 go0) (fun i => (i : Int)) x.n (fun _ => none) (fun _ => none) (some true)
    (fun i go hi => by
      unfold F_laws_eqMailS_B0
      simp [hi, wsucc (show i < 4611686018427387904 by omega), e_Mail hf (x.f i) (he i hi)])
    (fun go => by unfold F_laws_eqMailS_B0; simp) x.n 0 fu (by omega) (by omega)
  rw [scan_all_none x.n _ (fun _ _ => rfl)] at h
  simpa using h
theorem e_WonS {fu : Nat} (hf : 2000000 ≤ fu) (x : Sl S_impl_Won) (hx : x.n ≤ 1048576) : F_laws_eqWonS fu x x = some true := by
  unfold F_laws_eqWonS
  simp only [bne_self_eq_false, cond_false]
  have h := L_scan (α := Unit) (B := fun w0 go0 => F_laws_eqWonS_B0 fu x x (some false) (some true) w0 go0) (fun i => (i : Int)) x.n (fun _ => none) (fun _ => none) (some true)
    (fun i go hi => by
      unfold F_laws_eqWonS_B0 F_laws_eqWon
      simp [hi, wsucc (show i < 4611686018427387904 by omega)])
    (fun go => by unfold F_laws_eqWonS_B0; simp) x.n 0 fu (by omega) (by omega)
  rw [scan_all_none x.n _ (fun _ _ => rfl)] at h
  simpa using h
theorem e_SealS {fu : Nat} (hf : 2000000 ≤ fu) (x : Sl S_impl_Seal) (hx : x.n ≤ 1048576) : F_laws_eqSealS fu x x = some true := by
  unfold F_laws_eqSealS
  simp only [bne_self_eq_false, cond_false]
  have h := L_scan (α := Unit) (B := fun w0 go0 => F_laws_eqSealS_B0 fu x x (some false) (some true) w0 go0) (fun i => (i : Int)) x.n (fun _ => none) (fun _ => none) (some true)
    (fun i go hi => by
      unfold F_laws_eqSealS_B0 F_laws_eqSeal
      simp [hi, wsucc (show i < 4611686018427387904 by omega), e_Entry])
    (fun go => by unfold F_laws_eqSealS_B0; simp) x.n 0 fu (by omega) (by omega)
  rw [scan_all_none x.n _ (fun _ _ => rfl)] at h
  simpa using h
theorem e_Cluster {fu : Nat} (hf : 2000000 ≤ fu) (x : S_impl_Cluster) (hx : CluLen x) : F_laws_eqCluster fu x x = some true := by
  unfold F_laws_eqCluster
  simp [e_NodeS hf x.Nodes hx.nodes hx.node, e_MailS hf x.Mails hx.mails hx.mail, e_WonS hf x.Wins hx.wins, e_SealS hf x.Seals hx.seals]

end Go.Proofs.Ytmnbmponjhglcaa.Pc
