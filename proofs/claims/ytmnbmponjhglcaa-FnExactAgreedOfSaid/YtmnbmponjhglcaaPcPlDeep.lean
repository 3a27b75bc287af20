/- Plain laws of rows of own rows: copies of them; marks end. Conditions: none. -/
import Derived.Test.YtmnbmponjhglcaaPcPlClus2
import Derived.Test.YtmnbmponjhglcaaPcPlMark
namespace Go.Proofs.Ytmnbmponjhglcaa.Pc
open Go Go.RowKit Go.Proofs Vm
set_option linter.unusedVariables false
set_option linter.unusedSimpArgs false
set_option maxRecDepth 100000

theorem cp_succ {α β : Type} (n : Nat) (f : Nat → α) (T : α → β) (d : β) : (fun j => if j = n then T (f n) else if j < n then T (f j) else d) = (fun j => if j < n + 1 then T (f j) else d) := by
  funext j
  by_cases h1 : j = n
  · subst h1; simp
  · by_cases h2 : j < n
    · have : j < n + 1 := by omega
      simp [h1, h2, this]
    · have : ¬ j < n + 1 := by omega
      simp [h1, h2, this]

/-- A loop that ends, whatever it writes. -/
theorem totL {ρ V : Type} {B : V → (V → Option ρ) → Option ρ} {fu : Nat} {v : V} {Q : ρ → Prop} (n : Nat) (I : Nat → V → Prop) (hf : n < fu) (h0 : I 0 v) (h1 : ∀ i v go, i < n → I i v → ∃ v', I (i + 1) v' ∧ B v go = go v') (h2 : ∀ v go, I n v → ∃ y, B v go = some y ∧ Q y) : ∃ y, L B fu v = some y ∧ Q y := by
  have key : ∀ m i fu v, i + m = n → m < fu → I i v → ∃ y, L B fu v = some y ∧ Q y := by
    intro m
    induction m with
    | zero =>
      intro i fu v hi hf hv
      obtain ⟨fu, rfl⟩ : ∃ k, fu = k + 1 := ⟨fu - 1, by omega⟩
      have : i = n := by omega
      subst this
      exact h2 v _ hv
    | succ m ih =>
      intro i fu v hi hf hv
      obtain ⟨fu, rfl⟩ : ∃ k, fu = k + 1 := ⟨fu - 1, by omega⟩
      obtain ⟨v', hv', e⟩ := h1 i v (L B fu) (by omega) hv
      obtain ⟨y, e2, hq⟩ := ih (i + 1) fu v' (by omega) (by omega) hv'
      exact ⟨y, by simp only [L]; rw [e, e2], hq⟩
  exact key n 0 fu v (by omega) hf h0

/-- What goes on to a next round. -/
def Goes {V ρ : Type} (I : V → Prop) (go : V → Option ρ) (z : Option ρ) : Prop := ∃ v', I v' ∧ z = go v'

theorem mu_EntryS {fu : Nat} (hf : 2000000 ≤ fu) (n : Nat) (k : Int) (rn : Nat) (f : Nat → S_impl_Entry) (hn : n ≤ 1048576) (h0 : 0 ≤ k) (h1 : k ≤ 1000000000000000000) : ∃ y, F_laws_markEntryS_U fu n k rn f = some y ∧ y.1 = k + 9 * n := by
  unfold F_laws_markEntryS_U
  exact totL (B := fun w0 go0 => F_laws_markEntryS_U_B0 fu n rn (fun z375 z376 => (some (z375, rn, z376))) w0.1 w0.2.1 w0.2.2 (fun q0 q1 q2 => go0 (q0, q1, q2))) (fu := fu) (v := ((k, 0, f) : Int × Int × (Nat → S_impl_Entry))) (Q := fun y => y.1 = k + 9 * n) n (fun i v => v.2.1 = (i : Int) ∧ v.1 = k + 9 * i) (by omega) ⟨rfl, by show k = _; omega⟩ (fun i v go hi hv => by
    obtain ⟨k', j, f⟩ := v
    obtain ⟨hv, hk⟩ := hv
    replace hv : j = (_ : Int) := hv
    replace hk : k' = (_ : Int) := hk
    subst hv
    subst hk
    unfold F_laws_markEntryS_U_B0
    simp only [Int.toNat_natCast, Int.natCast_nonneg, Int.ofNat_lt, hi, decide_true, Bool.and_self, cond_true, Option.bind_some, wsucc (show i < 4611686018427387904 by omega)]
    refine ⟨_, ?_, rfl⟩
    refine ⟨rfl, ?_⟩
    dsimp only
    simp (disch := omega) only [Vm.wrap64]
    omega) (fun v go hv => by
    obtain ⟨k', j, f⟩ := v
    obtain ⟨hv, hk⟩ := hv
    replace hv : j = (_ : Int) := hv
    subst hv
    unfold F_laws_markEntryS_U_B0
    simp only [Int.lt_irrefl, decide_false, cond_false]
    exact ⟨_, rfl, hk⟩)
theorem mu_Int64S {fu : Nat} (hf : 2000000 ≤ fu) (n : Nat) (k : Int) (rn : Nat) (f : Nat → Int) (hn : n ≤ 1048576) (h0 : 0 ≤ k) (h1 : k ≤ 1000000000000000000) : ∃ y, F_laws_markInt64S_U fu n k rn f = some y ∧ y.1 = k + 1 * n := by
  unfold F_laws_markInt64S_U
  exact totL (B := fun w0 go0 => F_laws_markInt64S_U_B0 fu n rn (fun z375 z376 => (some (z375, rn, z376))) w0.1 w0.2.1 w0.2.2 (fun q0 q1 q2 => go0 (q0, q1, q2))) (fu := fu) (v := ((k, 0, f) : Int × Int × (Nat → Int))) (Q := fun y => y.1 = k + 1 * n) n (fun i v => v.2.1 = (i : Int) ∧ v.1 = k + 1 * i) (by omega) ⟨rfl, by show k = _; omega⟩ (fun i v go hi hv => by
    obtain ⟨k', j, f⟩ := v
    obtain ⟨hv, hk⟩ := hv
    replace hv : j = (_ : Int) := hv
    replace hk : k' = (_ : Int) := hk
    subst hv
    subst hk
    unfold F_laws_markInt64S_U_B0
    simp only [Int.toNat_natCast, Int.natCast_nonneg, Int.ofNat_lt, hi, decide_true, Bool.and_self, cond_true, Option.bind_some, wsucc (show i < 4611686018427387904 by omega)]
    refine ⟨_, ?_, rfl⟩
    refine ⟨rfl, ?_⟩
    dsimp only
    simp (disch := omega) only [Vm.wrap64]
    omega) (fun v go hv => by
    obtain ⟨k', j, f⟩ := v
    obtain ⟨hv, hk⟩ := hv
    replace hv : j = (_ : Int) := hv
    subst hv
    unfold F_laws_markInt64S_U_B0
    simp only [Int.lt_irrefl, decide_false, cond_false]
    exact ⟨_, rfl, hk⟩)
theorem mu_WonS {fu : Nat} (hf : 2000000 ≤ fu) (n : Nat) (k : Int) (rn : Nat) (f : Nat → S_impl_Won) (hn : n ≤ 1048576) (h0 : 0 ≤ k) (h1 : k ≤ 1000000000000000000) : ∃ y, F_laws_markWonS_U fu n k rn f = some y ∧ y.1 = k + 2 * n := by
  unfold F_laws_markWonS_U
  exact totL (B := fun w0 go0 => F_laws_markWonS_U_B0 fu n rn (fun z375 z376 => (some (z375, rn, z376))) w0.1 w0.2.1 w0.2.2 (fun q0 q1 q2 => go0 (q0, q1, q2))) (fu := fu) (v := ((k, 0, f) : Int × Int × (Nat → S_impl_Won))) (Q := fun y => y.1 = k + 2 * n) n (fun i v => v.2.1 = (i : Int) ∧ v.1 = k + 2 * i) (by omega) ⟨rfl, by show k = _; omega⟩ (fun i v go hi hv => by
    obtain ⟨k', j, f⟩ := v
    obtain ⟨hv, hk⟩ := hv
    replace hv : j = (_ : Int) := hv
    replace hk : k' = (_ : Int) := hk
    subst hv
    subst hk
    unfold F_laws_markWonS_U_B0
    simp only [Int.toNat_natCast, Int.natCast_nonneg, Int.ofNat_lt, hi, decide_true, Bool.and_self, cond_true, Option.bind_some, wsucc (show i < 4611686018427387904 by omega)]
    refine ⟨_, ?_, rfl⟩
    refine ⟨rfl, ?_⟩
    dsimp only
    simp (disch := omega) only [Vm.wrap64]
    omega) (fun v go hv => by
    obtain ⟨k', j, f⟩ := v
    obtain ⟨hv, hk⟩ := hv
    replace hv : j = (_ : Int) := hv
    subst hv
    unfold F_laws_markWonS_U_B0
    simp only [Int.lt_irrefl, decide_false, cond_false]
    exact ⟨_, rfl, hk⟩)
theorem mu_SealS {fu : Nat} (hf : 2000000 ≤ fu) (n : Nat) (k : Int) (rn : Nat) (f : Nat → S_impl_Seal) (hn : n ≤ 1048576) (h0 : 0 ≤ k) (h1 : k ≤ 1000000000000000000) : ∃ y, F_laws_markSealS_U fu n k rn f = some y ∧ y.1 = k + 10 * n := by
  unfold F_laws_markSealS_U
  exact totL (B := fun w0 go0 => F_laws_markSealS_U_B0 fu n rn (fun z375 z376 => (some (z375, rn, z376))) w0.1 w0.2.1 w0.2.2 (fun q0 q1 q2 => go0 (q0, q1, q2))) (fu := fu) (v := ((k, 0, f) : Int × Int × (Nat → S_impl_Seal))) (Q := fun y => y.1 = k + 10 * n) n (fun i v => v.2.1 = (i : Int) ∧ v.1 = k + 10 * i) (by omega) ⟨rfl, by show k = _; omega⟩ (fun i v go hi hv => by
    obtain ⟨k', j, f⟩ := v
    obtain ⟨hv, hk⟩ := hv
    replace hv : j = (_ : Int) := hv
    replace hk : k' = (_ : Int) := hk
    subst hv
    subst hk
    unfold F_laws_markSealS_U_B0
    simp only [Int.toNat_natCast, Int.natCast_nonneg, Int.ofNat_lt, hi, decide_true, Bool.and_self, cond_true, Option.bind_some, wsucc (show i < 4611686018427387904 by omega)]
    refine ⟨_, ?_, rfl⟩
    refine ⟨rfl, ?_⟩
    dsimp only
    simp (disch := omega) only [Vm.wrap64]
    omega) (fun v go hv => by
    obtain ⟨k', j, f⟩ := v
    obtain ⟨hv, hk⟩ := hv
    replace hv : j = (_ : Int) := hv
    subst hv
    unfold F_laws_markSealS_U_B0
    simp only [Int.lt_irrefl, decide_false, cond_false]
    exact ⟨_, rfl, hk⟩)

theorem goes_EntryS {V ρ : Type} {I : V → Prop} {go : V → Option ρ} {fu : Nat} (hf : 2000000 ≤ fu) {n : Nat} {k : Int} {rn : Nat} {f : Nat → S_impl_Entry} {K : Int × Nat × (Nat → S_impl_Entry) → Option ρ} (hn : n ≤ 1048576) (h0 : 0 ≤ k) (h1 : k ≤ 1000000000000000000) (H : ∀ y : Int × Nat × (Nat → S_impl_Entry), y.1 = k + 9 * n → Goes I go (K y)) : Goes I go ((F_laws_markEntryS_U fu n k rn f).bind K) := by
  obtain ⟨y, e, hy⟩ := mu_EntryS hf n k rn f hn h0 h1
  rw [e]; exact H y hy
theorem goes_Int64S {V ρ : Type} {I : V → Prop} {go : V → Option ρ} {fu : Nat} (hf : 2000000 ≤ fu) {n : Nat} {k : Int} {rn : Nat} {f : Nat → Int} {K : Int × Nat × (Nat → Int) → Option ρ} (hn : n ≤ 1048576) (h0 : 0 ≤ k) (h1 : k ≤ 1000000000000000000) (H : ∀ y : Int × Nat × (Nat → Int), y.1 = k + 1 * n → Goes I go (K y)) : Goes I go ((F_laws_markInt64S_U fu n k rn f).bind K) := by
  obtain ⟨y, e, hy⟩ := mu_Int64S hf n k rn f hn h0 h1
  rw [e]; exact H y hy

/-! ### Mails -/
def Mails (n : Nat) (f : Nat → S_impl_Mail) : Prop := ∀ m, m < n → (f m).Entries.n ≤ 1048576
theorem mu_MailS {fu : Nat} (hf : 2000000 ≤ fu) (n : Nat) (k : Int) (f : Nat → S_impl_Mail) (hn : n ≤ 1048576) (h0 : 0 ≤ k) (h1 : k ≤ 100000000000000000) (hI : Mails n f) : ∃ y, F_laws_markMailS_U fu n k n n f = some y ∧ (0 ≤ y.1 ∧ y.1 ≤ k + 16777216 * n) := by
  unfold F_laws_markMailS_U
  let J : Nat → Int × Int × (Nat → S_impl_Mail) → Prop := fun i v => v.2.1 = (i : Int) ∧ (0 ≤ v.1 ∧ v.1 ≤ k + 16777216 * i) ∧ Mails n v.2.2
  exact totL (B := fun w0 go0 => F_laws_markMailS_U_B0 fu n n n (fun z387 z388 => (some (z387, n, n, z388))) w0.1 w0.2.1 w0.2.2 (fun q0 q1 q2 => go0 (q0, q1, q2))) (fu := fu) (v := ((k, 0, f) : Int × Int × (Nat → S_impl_Mail))) (Q := fun y => 0 ≤ y.1 ∧ y.1 ≤ k + 16777216 * n) n J (by omega) ⟨rfl, by show 0 ≤ k ∧ k ≤ _; omega, hI⟩ (fun i v go hi hv => by
    obtain ⟨k', j, f⟩ := v
    obtain ⟨hv, hk, hm⟩ := hv
    replace hv : j = (_ : Int) := hv
    replace hk : 0 ≤ k' ∧ k' ≤ k + 16777216 * (i : Int) := hk
    subst hv
    have hl := hm i hi
    replace hl : (f i).Entries.n ≤ 1048576 := hl
    unfold F_laws_markMailS_U_B0
    simp only [Int.toNat_natCast, Int.natCast_nonneg, Int.ofNat_lt, hi, decide_true, Bool.and_self, Bool.and_true, cond_true, Option.bind_some, wsucc (show i < 4611686018427387904 by omega),
      upd_impl_Mail_0_1, upd_impl_Mail_1_1, upd_impl_Mail_2_1, upd_impl_Mail_3_1, upd_impl_Mail_4_1, upd_impl_Mail_5_1, upd_impl_Mail_6_1, upd_impl_Mail_7_1, upd_impl_Mail_8_1, if_true]
    simp (disch := omega) only [Vm.wrap64]
    refine goes_EntryS (I := J (i + 1)) (go := go) hf hl (by omega) (by omega) (fun y hy => ?_)
    refine ⟨_, ?_, rfl⟩
    refine ⟨rfl, ?_, fun m hm' => ?_⟩
    · show 0 ≤ y.1 ∧ y.1 ≤ _
      omega
    · simp only [upd_impl_Mail_0_1, upd_impl_Mail_1_1, upd_impl_Mail_2_1, upd_impl_Mail_3_1, upd_impl_Mail_4_1, upd_impl_Mail_5_1, upd_impl_Mail_6_1, upd_impl_Mail_7_1, upd_impl_Mail_8_1]
      by_cases e : m = i
      · subst e; simp only [if_true]; exact hl
      · simp only [e, if_false]; exact hm m hm') (fun v go hv => by
    obtain ⟨k', j, f⟩ := v
    obtain ⟨hv, hk, hm⟩ := hv
    replace hv : j = (_ : Int) := hv
    subst hv
    unfold F_laws_markMailS_U_B0
    simp only [Int.lt_irrefl, decide_false, cond_false]
    exact ⟨_, rfl, hk⟩)

/-! ### Nodes -/
def Nodes (n : Nat) (f : Nat → S_impl_Node) : Prop := ∀ m, m < n → NodeLen (f m)
theorem mu_NodeS {fu : Nat} (hf : 2000000 ≤ fu) (n : Nat) (k : Int) (f : Nat → S_impl_Node) (hn : n ≤ 1048576) (h0 : 0 ≤ k) (h1 : k ≤ 100000000000000000) (hI : Nodes n f) : ∃ y, F_laws_markNodeS_U fu n k n n f = some y ∧ (0 ≤ y.1 ∧ y.1 ≤ k + 16777216 * n) := by
  unfold F_laws_markNodeS_U
  let J : Nat → Int × Int × (Nat → S_impl_Node) → Prop := fun i v => v.2.1 = (i : Int) ∧ (0 ≤ v.1 ∧ v.1 ≤ k + 16777216 * i) ∧ Nodes n v.2.2
  exact totL (B := fun w0 go0 => F_laws_markNodeS_U_B0 fu n n n (fun z387 z388 => (some (z387, n, n, z388))) w0.1 w0.2.1 w0.2.2 (fun q0 q1 q2 => go0 (q0, q1, q2))) (fu := fu) (v := ((k, 0, f) : Int × Int × (Nat → S_impl_Node))) (Q := fun y => 0 ≤ y.1 ∧ y.1 ≤ k + 16777216 * n) n J (by omega) ⟨rfl, by show 0 ≤ k ∧ k ≤ _; omega, hI⟩ (fun i v go hi hv => by
    obtain ⟨k', j, f⟩ := v
    obtain ⟨hv, hk, hm⟩ := hv
    replace hv : j = (_ : Int) := hv
    replace hk : 0 ≤ k' ∧ k' ≤ k + 16777216 * (i : Int) := hk
    subst hv
    have hl := hm i hi
    replace hl : NodeLen (f i) := hl
    have l1 := hl.log
    have l2 := hl.votes
    have l3 := hl.next
    have l4 := hl.mat
    unfold F_laws_markNodeS_U_B0
    simp only [Int.toNat_natCast, Int.natCast_nonneg, Int.ofNat_lt, hi, decide_true, Bool.and_self, Bool.and_true, cond_true, Option.bind_some, wsucc (show i < 4611686018427387904 by omega),
      upd_impl_Node_0_1, upd_impl_Node_1_1, upd_impl_Node_2_1, upd_impl_Node_3_1, upd_impl_Node_4_1, upd_impl_Node_5_1, upd_impl_Node_6_1, upd_impl_Node_7_1, upd_impl_Node_8_1, upd_impl_Node_9_1, if_true]
    simp (disch := omega) only [Vm.wrap64]
    refine goes_EntryS (I := J (i + 1)) (go := go) hf l1 (by omega) (by omega) (fun y1 g1 => ?_)
    simp (disch := omega) only [Vm.wrap64]
    refine goes_Int64S (I := J (i + 1)) (go := go) hf l2 (by omega) (by omega) (fun y2 g2 => ?_)
    refine goes_Int64S (I := J (i + 1)) (go := go) hf l3 (by omega) (by omega) (fun y3 g3 => ?_)
    refine goes_Int64S (I := J (i + 1)) (go := go) hf l4 (by omega) (by omega) (fun y4 g4 => ?_)
    refine ⟨_, ?_, rfl⟩
    refine ⟨rfl, ?_, fun m hm' => ?_⟩
    · show 0 ≤ y4.1 ∧ y4.1 ≤ _
      omega
    · simp only [upd_impl_Node_0_1, upd_impl_Node_1_1, upd_impl_Node_2_1, upd_impl_Node_3_1, upd_impl_Node_4_1, upd_impl_Node_5_1, upd_impl_Node_6_1, upd_impl_Node_7_1, upd_impl_Node_8_1, upd_impl_Node_9_1]
      by_cases e : m = i
      · subst e; simp only [if_true]; exact ⟨l1, l2, l3, l4⟩
      · simp only [e, if_false]; exact hm m hm') (fun v go hv => by
    obtain ⟨k', j, f⟩ := v
    obtain ⟨hv, hk, hm⟩ := hv
    replace hv : j = (_ : Int) := hv
    subst hv
    unfold F_laws_markNodeS_U_B0
    simp only [Int.lt_irrefl, decide_false, cond_false]
    exact ⟨_, rfl, hk⟩)

/-! ### Copies -/
theorem tu_NodeS {fu : Nat} (hf : 2000000 ≤ fu) (x : Sl S_laws_Node) (hx : x.n ≤ 1048576) (he : ∀ i, i < x.n → NodeLen' (x.f i)) : F_laws_toNodeS_U fu x = some (x.n, x.n, (cp toN d_Node x).f) := by
  unfold F_laws_toNodeS_U
  have h1 : (144 : Int) * (x.n : Int) ≤ 281474976710656 := by omega
  have h2 : (x.n : Int) ≤ 9223372036854775807 := by omega
  simp only [h1, h2, decide_true, Bool.and_true, Int.toNat_natCast, Int.natCast_nonneg, cond_true]
  refine stepL x.n (fun i => ((i : Int), i, fun j => if j < i then toN (x.f j) else d_Node)) (by omega) rfl (fun i go hi => ?_) (fun go => ?_)
  · unfold F_laws_toNodeS_U_B0
    simp only [Int.toNat_natCast, Int.natCast_nonneg, Int.ofNat_lt, hi, decide_true, Bool.and_self, cond_true, Option.bind_some, wsucc (show i < 4611686018427387904 by omega), tH_Node hf (x.f i) (he i hi)]
    rw [← cp_succ]
    rfl
  · unfold F_laws_toNodeS_U_B0
    simp only [Int.lt_irrefl, Nat.le_refl, decide_true, decide_false, cond_false, cond_true]
    rfl
theorem tH_Mail {fu : Nat} (hf : 2000000 ≤ fu) (x : S_laws_Mail) (hx : x.Entries.n ≤ 1048576) : F_laws_toMail_H fu x = some (toM x) := by
  unfold F_laws_toMail_H
  simp only [tH_EntryS hf x.Entries hx, Option.bind_some]
  rfl
theorem tu_MailS {fu : Nat} (hf : 2000000 ≤ fu) (x : Sl S_laws_Mail) (hx : x.n ≤ 1048576) (he : ∀ i, i < x.n → (x.f i).Entries.n ≤ 1048576) : F_laws_toMailS_U fu x = some (x.n, x.n, (cp toM d_Mail x).f) := by
  unfold F_laws_toMailS_U
  have h1 : (88 : Int) * (x.n : Int) ≤ 281474976710656 := by omega
  have h2 : (x.n : Int) ≤ 9223372036854775807 := by omega
  simp only [h1, h2, decide_true, Bool.and_true, Int.toNat_natCast, Int.natCast_nonneg, cond_true]
  refine stepL x.n (fun i => ((i : Int), i, fun j => if j < i then toM (x.f j) else d_Mail)) (by omega) rfl (fun i go hi => ?_) (fun go => ?_)
  · unfold F_laws_toMailS_U_B0
    simp only [Int.toNat_natCast, Int.natCast_nonneg, Int.ofNat_lt, hi, decide_true, Bool.and_self, cond_true, Option.bind_some, wsucc (show i < 4611686018427387904 by omega), tH_Mail hf (x.f i) (he i hi)]
    rw [← cp_succ]
    rfl
  · unfold F_laws_toMailS_U_B0
    simp only [Int.lt_irrefl, Nat.le_refl, decide_true, decide_false, cond_false, cond_true]
    rfl
theorem tH_WonS {fu : Nat} (hf : 2000000 ≤ fu) (x : Sl S_impl_Won) (hx : x.n ≤ 1048576) : F_laws_toWonS_H fu x = some (cp id ⟨0, 0⟩ x) := by
  unfold F_laws_toWonS_H
  have h1 : (16 : Int) * (x.n : Int) ≤ 281474976710656 := by omega
  have h2 : (x.n : Int) ≤ 9223372036854775807 := by omega
  simp only [h1, h2, decide_true, Bool.and_true, Int.toNat_natCast, Int.natCast_nonneg, cond_true]
  exact to_loop x.n x.f id ⟨0, 0⟩ (fun w0 go0 => F_laws_toWonS_H_B0 fu x x.n x.n (fun z => some (⟨none, x.n, z⟩ : Sl S_impl_Won)) w0.1 w0.2 (fun q0 q1 => go0 (q0, q1))) (fun z => some (⟨none, x.n, z⟩ : Sl S_impl_Won)) (fun i o go hi => by
    unfold F_laws_toWonS_H_B0 F_laws_toWon
    by_cases h : i < x.n
    · simp [h, wsucc (show i < 4611686018427387904 by omega)]
    · simp [h]) fu (by omega)
theorem tH_SealS {fu : Nat} (hf : 2000000 ≤ fu) (x : Sl S_laws_Seal) (hx : x.n ≤ 1048576) : F_laws_toSealS_H fu x = some (cp toS ⟨0, d_Entry⟩ x) := by
  unfold F_laws_toSealS_H
  have h1 : (80 : Int) * (x.n : Int) ≤ 281474976710656 := by omega
  have h2 : (x.n : Int) ≤ 9223372036854775807 := by omega
  simp only [h1, h2, decide_true, Bool.and_true, Int.toNat_natCast, Int.natCast_nonneg, cond_true]
  exact to_loop x.n x.f toS ⟨0, d_Entry⟩ (fun w0 go0 => F_laws_toSealS_H_B0 fu x x.n x.n (fun z => some (⟨none, x.n, z⟩ : Sl S_impl_Seal)) w0.1 w0.2 (fun q0 q1 => go0 (q0, q1))) (fun z => some (⟨none, x.n, z⟩ : Sl S_impl_Seal)) (fun i o go hi => by
    unfold F_laws_toSealS_H_B0 F_laws_toSeal
    by_cases h : i < x.n
    · simp [h, wsucc (show i < 4611686018427387904 by omega), t_Entry, toS]
    · simp [h]) fu (by omega)
theorem tu_Cluster {fu : Nat} (hf : 2000000 ≤ fu) (x : S_laws_Cluster) (hx : CluLen' x) : F_laws_toCluster_U fu x = some (x.Nodes.n, x.Mails.n, x.Wins.n, x.Seals.n, x.Nodes.n, (toC x).Nodes.f, x.Mails.n, (toC x).Mails.f, x.Wins.n, (toC x).Wins.f, x.Seals.n, (toC x).Seals.f) := by
  unfold F_laws_toCluster_U
  simp only [tu_NodeS hf x.Nodes hx.nodes hx.node, tu_MailS hf x.Mails hx.mails hx.mail, tH_WonS hf x.Wins hx.wins, tH_SealS hf x.Seals hx.seals, Option.bind_some, Nat.le_refl, decide_true, Bool.and_self, cond_true]
  rfl
theorem mu_Cluster {fu : Nat} (hf : 2000000 ≤ fu) (x : S_laws_Cluster) (hx : CluLen' x) : ∃ y, F_laws_markCluster_U fu x.Nodes.n x.Mails.n x.Wins.n x.Seals.n 1 x.Nodes.n x.Nodes.n (toC x).Nodes.f x.Mails.n x.Mails.n (toC x).Mails.f x.Wins.n (toC x).Wins.f x.Seals.n (toC x).Seals.f = some y ∧ 0 ≤ y.1 := by
  have hl := toC_len hx
  have n1 := hx.nodes
  have n2 := hx.mails
  have n3 := hx.wins
  have n4 := hx.seals
  unfold F_laws_markCluster_U
  obtain ⟨y1, e1, g1⟩ := mu_NodeS hf x.Nodes.n 1 (toC x).Nodes.f hx.nodes (by omega) (by omega) (fun m hm => hl.node m hm)
  obtain ⟨y2, e2, g2⟩ := mu_MailS hf x.Mails.n y1.1 (toC x).Mails.f hx.mails (by omega) (by omega) (fun m hm => hl.mail m hm)
  obtain ⟨y3, e3, g3⟩ := mu_WonS hf x.Wins.n y2.1 x.Wins.n (toC x).Wins.f hx.wins (by omega) (by omega)
  obtain ⟨y4, e4, g4⟩ := mu_SealS hf x.Seals.n y3.1 x.Seals.n (toC x).Seals.f hx.seals (by omega) (by omega)
  simp only [e1, e2, e3, e4, Option.bind_some]
  exact ⟨_, rfl, by show 0 ≤ y4.1; omega⟩

end Go.Proofs.Ytmnbmponjhglcaa.Pc
