/- The law of entries that are taken. Conditions: none. -/
import Derived.Test.YtokpamekcpbkaaaPcPlTake
import Derived.Test.YtokpamekcpbkaaaPcPlDraw2
namespace Go.Proofs.Ytokpamekcpbkaaa.Pc
open Go Go.RowKit Go.Proofs Vm
set_option linter.unusedVariables false
set_option linter.unusedSimpArgs false
set_option maxRecDepth 100000

theorem s_TakeEntriesN {fu : Nat} (hf : 2000000 ≤ fu) (log more : Sl S_impl_Entry) (index term : Int) : likeR (F_spec_TakeEntries fu log index term more) (takeR log index term more) := by
  unfold F_spec_TakeEntries takeR
  simp only [s_LogFault hf, Option.bind_some]
  cases h1 : (logf log != 0) with
  | true => exact ⟨_, rfl⟩
  | false =>
    simp only [cond_false]
    have l1 := logf_len (x := log) (by simpa using h1)
    cases h2 : (logf more != 0) with
    | true => exact ⟨_, rfl⟩
    | false =>
      simp only [cond_false]
      have l2 := logf_len (x := more) (by simpa using h2)
      simp only [s_fits fu log index term (by omega), Option.bind_some]
      cases h3 : fitl log index term with
      | false => exact ⟨_, rfl⟩
      | true =>
        simp only [Bool.not_true, cond_false]
        obtain ⟨f1, f2⟩ := fitl_at h3
        have ht := s_take hf log more index.toNat l1 l2 f2
        rw [show ((index.toNat : Nat) : Int) = index by omega] at ht
        simp only [ht, Option.bind_some]
        have fin : likeR (bif decide (((taken log more index.toNat).n : Int) > 40) then some (⟨2, ⟨some true, 0, fun _ => dflt .impl_Entry⟩⟩ : S_impl_EntriesResult) else some ⟨0, ⟨none, (taken log more index.toNat).n, (taken log more index.toNat).f⟩⟩) (bif decide (40 < (taken log more index.toNat).n) then ⟨2, noE⟩ else ⟨0, taken log more index.toNat⟩) := by
          by_cases h40 : 40 < (taken log more index.toNat).n
          · have h40' : ((taken log more index.toNat).n : Int) > 40 := by omega
            simp only [h40, h40', decide_true, cond_true]
            exact ⟨_, rfl⟩
          · have h40' : ¬ ((taken log more index.toNat).n : Int) > 40 := by omega
            simp only [h40, h40', decide_false, cond_false]
            exact ⟨_, rfl⟩
        by_cases h0 : 0 < more.n
        · have h0' : (more.n : Int) > 0 := by omega
          simp only [h0, h0', decide_true, cond_true, Int.toNat_zero, Int.le_refl, Bool.and_self, Option.bind_some, Bool.true_and]
          cases decide ((more.f 0).Term < term) with
          | true => exact ⟨_, rfl⟩
          | false => exact fin
        · have h0' : ¬ (more.n : Int) > 0 := by omega
          simp only [h0, h0', decide_false, cond_false, Option.bind_some, Bool.false_and]
          exact fin

theorem i_TakeEntriesN {fu : Nat} (hf : 2000000 ≤ fu) (log more : Sl S_impl_Entry) (index term : Int) : likeR (F_impl_TakeEntries fu log index term more) (takeR log index term more) := by
  unfold F_impl_TakeEntries takeR
  simp only [i_LogFault hf, Option.bind_some]
  cases h1 : (logf log != 0) with
  | true =>
    have h1' : (logf log == 0) = false := by simpa using h1
    simp only [h1', cond_false, cond_true]
    exact ⟨_, rfl⟩
  | false =>
    have h1' : (logf log == 0) = true := by simpa using h1
    simp only [h1', cond_false, cond_true]
    have l1 := logf_len (x := log) (by simpa using h1)
    cases h2 : (logf more != 0) with
    | true => exact ⟨_, rfl⟩
    | false =>
      simp only [cond_false]
      have l2 := logf_len (x := more) (by simpa using h2)
      simp only [i_fits fu log index term (by omega), Option.bind_some]
      cases h3 : fitl log index term with
      | false => exact ⟨_, rfl⟩
      | true =>
        simp only [Bool.not_true, cond_false]
        obtain ⟨f1, f2⟩ := fitl_at h3
        have ht := i_take hf log more index.toNat l1 l2 f2
        rw [show ((index.toNat : Nat) : Int) = index by omega] at ht
        simp only [ht, Option.bind_some]
        have fin : likeR (some (⟨(bif decide (40 < (taken log more index.toNat).n) then (⟨2, ⟨some true, 0, fun _ => dflt .impl_Entry⟩⟩ : S_impl_EntriesResult) else ⟨0, taken log more index.toNat⟩).Code, ⟨none, (bif decide (40 < (taken log more index.toNat).n) then (⟨2, ⟨some true, 0, fun _ => dflt .impl_Entry⟩⟩ : S_impl_EntriesResult) else ⟨0, taken log more index.toNat⟩).Entries.n, (bif decide (40 < (taken log more index.toNat).n) then (⟨2, ⟨some true, 0, fun _ => dflt .impl_Entry⟩⟩ : S_impl_EntriesResult) else ⟨0, taken log more index.toNat⟩).Entries.f⟩⟩ : S_impl_EntriesResult)) (bif decide (40 < (taken log more index.toNat).n) then ⟨2, noE⟩ else ⟨0, taken log more index.toNat⟩) := by
          cases decide (40 < (taken log more index.toNat).n) with
          | true => exact ⟨_, rfl⟩
          | false => exact ⟨_, rfl⟩
        by_cases h0 : 0 < more.n
        · have h0' : (more.n : Int) > 0 := by omega
          simp only [h0, h0', decide_true, cond_true, Int.toNat_zero, Int.le_refl, Bool.and_self, Option.bind_some, Bool.true_and]
          cases decide ((more.f 0).Term < term) with
          | true => exact ⟨_, rfl⟩
          | false => exact fin
        · have h0' : ¬ (more.n : Int) > 0 := by omega
          simp only [h0, h0', decide_false, cond_false, Option.bind_some, Bool.false_and]
          exact fin


/-! ### What is taken -/

theorem scan_someL {α : Type} {f : Nat → Option α} {a : α} : ∀ {m i : Nat}, scan f m i = some a → ∃ j, i ≤ j ∧ j < i + m ∧ f j = some a
  | 0, i, h => by simp [scan_zero] at h
  | m + 1, i, h => by
    rw [scan_succ] at h
    cases hq : f i with
    | some b =>
      rw [hq] at h
      have h := Option.some.inj h; subst h
      exact ⟨i, Nat.le_refl _, by omega, hq⟩
    | none =>
      rw [hq] at h
      obtain ⟨j, h1, h2, h3⟩ := scan_someL h
      exact ⟨j, by omega, by omega, h3⟩


theorem logf_iff {x : Sl S_impl_Entry} : logf x = 0 ↔ x.n ≤ 40 ∧ ∀ i, i < x.n → entf (x.f i) = 0 ∧ (0 < i → (x.f (i - 1)).Term ≤ (x.f i).Term) := by
  constructor
  · intro h
    have hn := logf_len h
    refine ⟨hn, fun i hi => ?_⟩
    unfold logf at h
    rw [if_neg (by omega)] at h
    have hs : scan (logAt x) x.n 0 = none := by
      cases hq : scan (logAt x) x.n 0 with
      | none => rfl
      | some c =>
        exfalso
        rw [hq] at h
        simp only [Option.getD_some] at h
        subst h
        obtain ⟨j, _, _, hj⟩ := scan_someL hq
        unfold logAt at hj
        cases h1 : (entf (x.f j) != 0) with
        | true =>
          rw [h1] at hj
          simp only [cond_true, Option.some.injEq] at hj
          rw [hj] at h1; cases h1
        | false =>
          rw [h1] at hj
          simp only [cond_false] at hj
          cases h2 : (decide (0 < j) && decide ((x.f j).Term < (x.f (j - 1)).Term)) with
          | true => rw [h2] at hj; cases hj
          | false => rw [h2] at hj; cases hj
    have := scan_none.1 hs i (by omega) (by omega)
    unfold logAt at this
    cases h1 : (entf (x.f i) != 0) with
    | true => rw [h1] at this; cases this
    | false =>
      rw [h1] at this
      simp only [cond_false] at this
      refine ⟨by simpa using h1, fun h0 => ?_⟩
      cases h2 : (decide (0 < i) && decide ((x.f i).Term < (x.f (i - 1)).Term)) with
      | true => rw [h2] at this; cases this
      | false =>
        simp only [h0, decide_true, Bool.true_and, decide_eq_false_iff_not] at h2
        omega
  · rintro ⟨hn, h⟩
    unfold logf
    rw [if_neg (by omega)]
    have hs : scan (logAt x) x.n 0 = none := scan_none.2 (fun i _ hi => by
      obtain ⟨h1, h2⟩ := h i (by omega)
      unfold logAt
      rw [h1]
      simp only [bne_self_eq_false, cond_false]
      by_cases h0 : 0 < i
      · have := h2 h0
        have : ¬ (x.f i).Term < (x.f (i - 1)).Term := by omega
        simp only [this, decide_false, Bool.and_false, cond_false]
      · simp only [h0, decide_false, Bool.false_and, cond_false])
    rw [hs]; rfl

theorem run_miss {log more : Sl S_impl_Entry} {at0 : Nat} : ∀ (m i : Nat), (∀ k, run (miss log more at0) m i () = .inl k → i ≤ k ∧ k < i + m ∧ ∀ j, i ≤ j → j < k → at0 + j < log.n ∧ (log.f (at0 + j)).Term = (more.f j).Term) ∧
    (∀ u, run (miss log more at0) m i () = .inr u → ∀ j, i ≤ j → j < i + m → at0 + j < log.n ∧ (log.f (at0 + j)).Term = (more.f j).Term)
  | 0, i => by
    refine ⟨fun k h => by simp [run] at h, fun u _ j h1 h2 => by omega⟩
  | m + 1, i => by
    obtain ⟨r1, r2⟩ := run_miss (log := log) (more := more) (at0 := at0) m (i + 1)
    cases hc : (decide (log.n ≤ at0 + i) || ((log.f (at0 + i)).Term != (more.f i).Term)) with
    | true =>
      have e : miss log more at0 i () = .inl i := by unfold miss; rw [hc]; rfl
      refine ⟨fun k h => ?_, fun u h => ?_⟩
      · simp only [run, e] at h
        cases h
        exact ⟨Nat.le_refl _, by omega, fun j h1 h2 => by omega⟩
      · simp only [run, e] at h
        cases h
    | false =>
      have e : miss log more at0 i () = .inr () := by unfold miss; rw [hc]; rfl
      simp only [Bool.or_eq_false_iff, decide_eq_false_iff_not, bne_eq_false_iff_eq] at hc
      refine ⟨fun k h => ?_, fun u h => ?_⟩
      · simp only [run, e] at h
        obtain ⟨a1, a2, a3⟩ := r1 k h
        refine ⟨by omega, by omega, fun j h1 h2 => ?_⟩
        by_cases hj : j = i
        · subst hj; exact ⟨by omega, hc.2⟩
        · exact a3 j (by omega) h2
      · simp only [run, e] at h
        intro j h1 h2
        by_cases hj : j = i
        · subst hj; exact ⟨by omega, hc.2⟩
        · exact r2 u h j (by omega) (by omega)

theorem fitl_iff {x : Sl S_impl_Entry} {i t : Int} : fitl x i t = true ↔ (i = 0 ∧ t = 0) ∨ (1 ≤ i ∧ i ≤ (x.n : Int) ∧ (x.f (i - 1).toNat).Term = t) := by
  unfold fitl
  by_cases h0 : i = 0
  · subst h0; simp
  · have e0 : (i == 0) = false := by simpa using h0
    rw [e0]
    simp only [cond_false]
    by_cases hr : 1 ≤ i ∧ i ≤ (x.n : Int)
    · have e1 : rng i 1 (x.n : Int) = true := by simp only [rng, hr.1, hr.2, decide_true, Bool.and_self]
      rw [e1]
      simp only [cond_true, beq_iff_eq]
      constructor
      · intro h; exact .inr ⟨hr.1, hr.2, h⟩
      · rintro (⟨h, _⟩ | ⟨_, _, h⟩)
        · exact absurd h h0
        · exact h
    · have e1 : rng i 1 (x.n : Int) = false := by
        rw [Bool.eq_false_iff]
        intro h
        simp only [rng, Bool.and_eq_true, decide_eq_true_eq] at h
        exact hr h
      rw [e1]
      simp only [cond_false]
      constructor
      · intro h; cases h
      · rintro (⟨h, _⟩ | ⟨h1, h2, _⟩)
        · exact absurd h h0
        · exact absurd ⟨h1, h2⟩ hr

/-- What is so of entries that were taken. -/
structure Took (log more out : Sl S_impl_Entry) (index term : Int) : Prop where
  ind : 0 ≤ index ∧ index.toNat ≤ log.n
  old : ∀ i, i < index.toNat → out.f i = log.f i
  long : index.toNat + more.n ≤ out.n
  new : ∀ k, k < more.n → (out.f (index.toNat + k)).Term = (more.f k).Term
  good : logf out = 0
  fits : fitl out index term = true

theorem Took.like {log more a b : Sl S_impl_Entry} {index term : Int} (t : Took log more a index term) (h1 : b.n = a.n) (h2 : b.f = a.f) : Took log more b index term := by
  obtain ⟨z, n, f⟩ := a
  obtain ⟨z', n', f'⟩ := b
  dsimp only at h1 h2
  subst h1; subst h2
  exact ⟨t.ind, t.old, t.long, t.new, t.good, t.fits⟩

theorem took {log more : Sl S_impl_Entry} {index term : Int} (h : (takeR log index term more).Code = 0) : Took log more (takeR log index term more).Entries index term ∧ logf more = 0 ∧ (decide (0 < more.n) && decide ((more.f 0).Term < term)) = false := by
  unfold takeR at h ⊢
  cases h1 : (logf log != 0) with
  | true =>
    rw [h1] at h
    replace h : logf log = 0 := h
    rw [h] at h1; cases h1
  | false =>
  rw [h1] at h
  cases h2 : (logf more != 0) with
  | true =>
    rw [h2] at h
    replace h : logf more = 0 := h
    rw [h] at h2; cases h2
  | false =>
  rw [h2] at h
  cases h3 : fitl log index term with
  | false => rw [h3] at h; cases h
  | true =>
  rw [h3] at h
  cases h4 : (decide (0 < more.n) && decide ((more.f 0).Term < term)) with
  | true => rw [h4] at h; cases h
  | false =>
  rw [h4] at h
  cases h5 : decide (40 < (taken log more index.toNat).n) with
  | true => rw [h5] at h; cases h
  | false =>
  have h5 := of_decide_eq_false h5
  simp only [Bool.not_true, cond_false]
  have l1 : logf log = 0 := by simpa using h1
  have l2 : logf more = 0 := by simpa using h2
  refine ⟨?_, l2, by first | rfl | trivial⟩
  obtain ⟨n1, g1⟩ := logf_iff.1 l1
  obtain ⟨n2, g2⟩ := logf_iff.1 l2
  obtain ⟨i0, i1⟩ := fitl_at h3
  have hfit : ∀ out : Sl S_impl_Entry, index.toNat ≤ out.n → (∀ i, i < index.toNat → out.f i = log.f i) → fitl out index term = true := by
    intro out hn hold
    rcases fitl_iff.1 h3 with ⟨a, b⟩ | ⟨a, b, c⟩
    · exact fitl_iff.2 (.inl ⟨a, b⟩)
    · exact fitl_iff.2 (.inr ⟨a, by omega, by rw [hold _ (by omega)]; exact c⟩)
  unfold taken at h5 ⊢
  obtain ⟨r1, r2⟩ := run_miss (log := log) (more := more) (at0 := index.toNat) more.n 0
  cases hr : run (miss log more index.toNat) more.n 0 () with
  | inr u =>
    have r2 := r2 u hr
    refine ⟨⟨i0, i1⟩, fun i _ => rfl, ?_, fun k hk => (r2 k (by omega) (by omega)).2, l1, hfit _ i1 (fun i _ => rfl)⟩
    show index.toNat + more.n ≤ log.n
    by_cases hm : more.n = 0
    · omega
    · have := (r2 (more.n - 1) (by omega) (by omega)).1
      omega
  | inl k =>
    rw [hr] at h5
    obtain ⟨_, k1, k2⟩ := r1 k hr
    have hk : index.toNat + k ≤ log.n := by
      by_cases h0 : k = 0
      · omega
      · have := (k2 (k - 1) (by omega) (by omega)).1
        omega
    have hf : ∀ i, (joined log more index.toNat k).f i = if i < index.toNat + k then log.f i else more.f (i - index.toNat) := by
      intro i
      show (if i < index.toNat + k then log.f i else more.f (k + (i - (index.toNat + k)))) = _
      by_cases hi : i < index.toNat + k
      · rw [if_pos hi, if_pos hi]
      · rw [if_neg hi, if_neg hi, show k + (i - (index.toNat + k)) = i - index.toNat by omega]
    have hn : (joined log more index.toNat k).n = index.toNat + more.n := by
      show index.toNat + k + (more.n - k) = _
      omega
    have hold : ∀ i, i < index.toNat → (joined log more index.toNat k).f i = log.f i := fun i hi => by rw [hf, if_pos (by omega)]
    refine ⟨⟨i0, i1⟩, hold, by show _ ≤ (joined log more index.toNat k).n; omega, fun j hj => ?_, logf_iff.2 ⟨by show (joined log more index.toNat k).n ≤ 40; simp only [Sum.elim_inl] at h5; omega, fun i hi => ?_⟩, hfit _ (by show _ ≤ (joined log more index.toNat k).n; omega) hold⟩
    · show ((joined log more index.toNat k).f (index.toNat + j)).Term = _
      rw [hf]
      by_cases h : index.toNat + j < index.toNat + k
      · rw [if_pos h]; exact (k2 j (by omega) (by omega)).2
      · rw [if_neg h, show index.toNat + j - index.toNat = j by omega]
    · replace hi : i < (joined log more index.toNat k).n := hi
      show entf ((joined log more index.toNat k).f i) = 0 ∧ (0 < i → ((joined log more index.toNat k).f (i - 1)).Term ≤ ((joined log more index.toNat k).f i).Term)
      rw [hf, hf]
      by_cases hik : i < index.toNat + k
      · rw [if_pos hik, if_pos (by omega)]
        exact g1 i (by omega)
      · rw [if_neg hik]
        have hb := g2 (i - index.toNat) (by omega)
        refine ⟨hb.1, fun hpos => ?_⟩
        by_cases hi1 : i - 1 < index.toNat + k
        · rw [if_pos hi1]
          have hie : i = index.toNat + k := by omega
          by_cases hk0 : k = 0
          · subst hk0
            have e : i - index.toNat = 0 := by omega
            rw [e]
            rcases fitl_iff.1 h3 with ⟨a, b⟩ | ⟨a, b, c⟩
            · omega
            · rw [show i - 1 = (index - 1).toNat by omega, c]
              have hm : 0 < more.n := by omega
              simp only [hm, decide_true, Bool.true_and, decide_eq_false_iff_not] at h4
              omega
          · have hq := (k2 (k - 1) (by omega) (by omega)).2
            rw [show i - 1 = index.toNat + (k - 1) by omega, hq, show i - index.toNat = k by omega]
            exact (g2 k (by omega)).2 (by omega)
        · rw [if_neg hi1, show i - 1 - index.toNat = i - index.toNat - 1 by omega]
          exact hb.2 (by omega)

theorem took_again {log more out : Sl S_impl_Entry} {index term : Int} (t : Took log more out index term) (l2 : logf more = 0) (h4 : (decide (0 < more.n) && decide ((more.f 0).Term < term)) = false) : takeR out index term more = ⟨0, fresh out⟩ := by
  unfold takeR
  rw [t.good, l2, t.fits, h4]
  have e : taken out more index.toNat = fresh out := by
    unfold taken
    have key : ∀ m i, i + m ≤ more.n → run (miss out more index.toNat) m i () = .inr () := by
      intro m
      induction m with
      | zero => intro i _; rfl
      | succ m ih =>
        intro i hi
        have hl := t.long
        have h1 : ¬ out.n ≤ index.toNat + i := by omega
        have h2 := t.new i (by omega)
        have hm : miss out more index.toNat i () = .inr () := by
          unfold miss
          rw [h2]
          simp only [h1, decide_false, Bool.false_or, bne_self_eq_false, cond_false]
        simp only [run, hm]
        exact ih (i + 1) (by omega)
    rw [key more.n 0 (by omega)]
    rfl
  rw [e]
  have hn := (logf_iff.1 t.good).1
  have h40 : ¬ 40 < (fresh out).n := by show ¬ 40 < out.n; omega
  simp only [bne_self_eq_false, cond_false, Bool.not_true, h40, decide_false]

theorem eqE_refl (x : S_impl_Entry) : eqE x x = true := by unfold eqE; simp
theorem common_ge {x y : Sl S_impl_Entry} {n : Nat} (hx : n ≤ x.n) (hy : n ≤ y.n) (h : ∀ i, i < n → x.f i = y.f i) : n ≤ common x y := by
  unfold common
  cases hs : scan (comAt x y) (min x.n y.n) 0 with
  | none => simp only [Option.getD_none]; omega
  | some j =>
    simp only [Option.getD_some]
    obtain ⟨k, _, _, hk⟩ := scan_someL hs
    unfold comAt at hk
    by_cases hkn : k < n
    · rw [h k hkn, eqE_refl] at hk
      cases hk
    · cases he : eqE (x.f k) (y.f k) with
      | true => rw [he] at hk; cases hk
      | false =>
        rw [he] at hk
        simp only [cond_false, Option.some.injEq] at hk
        omega
theorem i_SameEntries {fu : Nat} (hf : 2000000 ≤ fu) (x y : Sl S_impl_Entry) (hx : x.n ≤ 1048576) (hn : x.n = y.n) (h : ∀ i, i < x.n → x.f i = y.f i) : F_impl_SameEntries fu x y = some true := by
  unfold F_impl_SameEntries F_slices_Equal_impl_Entry_impl_Entry
  rw [hn]
  simp only [bne_self_eq_false, cond_false]
  rw [stepL (v := (0 : Int)) (ke := some true) y.n (fun i => (i : Int)) (by omega) rfl (fun i go hi => ?_) (fun go => ?_)]
  · rfl
  · unfold F_slices_Equal_impl_Entry_impl_Entry_B0
    have hi' : i < x.n := by omega
    simp [hi, hi', h i hi', wsucc (show i < 4611686018427387904 by omega)]
  · unfold F_slices_Equal_impl_Entry_impl_Entry_B0
    simp
theorem i_lastN (fu : Nat) (x : Sl S_impl_Entry) (hx : x.n ≤ 1048576) : F_impl_last fu x = some (lastE x) := by
  unfold F_impl_last lastE
  by_cases h : x.n = 0
  · simp [h, d_Entry, d_Cmd]
  · have h1 : ((x.n : Int) == 0) = false := by simpa using h
    have h2 : x.n - 1 < x.n := by omega
    simp only [h1, cond_false, wpred (show 0 < x.n by omega) (show x.n < 4611686018427387904 by omega), Int.toNat_natCast, Int.natCast_nonneg, h2, decide_true, Bool.and_self, cond_true, Option.bind_some, if_neg h]
theorem i_uptoN (fu : Nat) (x : Sl S_impl_Entry) (i t : Int) (hx : x.n ≤ 1048576) : F_impl_upToDate fu x i t = some (upto x i t) := by
  unfold F_impl_upToDate upto F_impl_size_impl_Entry
  simp only [i_lastN fu x hx, Option.bind_some]
  cases decide (t > (lastE x).Term) <;> cases (t == (lastE x).Term) <;> rfl
theorem i_UpToDateN {fu : Nat} (hf : 2000000 ≤ fu) (x : Sl S_impl_Entry) (i t : Int) : F_impl_UpToDate fu x i t = some (logf x == 0 && upto x i t) := by
  unfold F_impl_UpToDate
  simp only [i_LogFault hf, Option.bind_some]
  cases h : (logf x == 0) with
  | false => rfl
  | true => simp only [cond_true, i_uptoN fu x i t (by have := logf_len (x := x) (by simpa using h); omega), Option.bind_some, Bool.true_and]
theorem upto_end (x : Sl S_impl_Entry) : upto x (x.n : Int) (lastE x).Term = true := by
  unfold upto
  simp

theorem plain_FnLogs (x : Sl Int) (w : W_sl_u8 x) : F_laws_FnLogs plainFuel x = some true := by
  unfold F_laws_FnLogs F_laws_lwBig
  simp only [Option.bind_some]
  by_cases hx : ((x.n : Int) > 1048576)
  · simp only [hx, decide_true, cond_true]
  simp only [hx, decide_false, cond_false]
  obtain ⟨⟨log, index, term, more⟩, e, hl, i0, i1, hm⟩ := d_DrawTakeEntries pf (src_of w (by omega))
  dsimp only at hl i0 i1 hm
  rw [e]
  simp only [Option.bind_some]
  obtain ⟨out, e1, o1, o2⟩ : ∃ out : Sl S_impl_Entry, F_impl_TakeEntries plainFuel log index term more = some ⟨(takeR log index term more).Code, out⟩ ∧ out.n = (takeR log index term more).Entries.n ∧ out.f = (takeR log index term more).Entries.f := by
    obtain ⟨z1, e1⟩ := i_TakeEntriesN pf log more index term
    exact ⟨_, e1, rfl, rfl⟩
  obtain ⟨z2, e2⟩ := s_TakeEntriesN pf log more index term
  simp only [e1, e2, Option.bind_some]
  cases hc : ((takeR log index term more).Code != 0) with
  | true => simp only [cond_true, beq_self_eq_true]
  | false =>
    simp only [cond_false]
    obtain ⟨t0, l2, h4⟩ := took (log := log) (more := more) (index := index) (term := term) (by simpa using hc)
    have t := t0.like o1 o2
    clear t0 e1 e2 o1 o2
    have hn := (logf_iff.1 t.good).1
    have hlong := t.long
    have hind := t.ind
    have hw : IntKind.wrap .i64 (index + (more.n : Int)) = index + (more.n : Int) := wrap64 (by omega) (by omega)
    have hlt : ¬ ((out.n : Int) < index + (more.n : Int)) := by omega
    have hcom := common_ge (x := log) (y := out) (n := index.toNat) hind.2 (by omega) (fun i hi => (t.old i hi).symm)
    have hcm : ¬ (((common log out : Nat) : Int) < index) := by omega
    simp only [i_LogFault pf, t.good, Option.bind_some, bne_self_eq_false, cond_false, hw, hlt, decide_false, i_CommonOf pf log out (by omega), hcm]
    rw [stepL (v := (0 : Int)) (ke := some true) more.n (fun i => (i : Int)) (by unfold plainFuel; omega) rfl (fun k go hk => ?_) (fun go => ?_)]
    · unfold F_laws_FnLogs_B0
      have e3 : IntKind.wrap .i64 (index + (k : Int)) = ((index.toNat + k : Nat) : Int) := by rw [wrap64 (by omega) (by omega)]; omega
      have h5 : index.toNat + k < out.n := by omega
      simp only [Int.ofNat_lt, hk, decide_true, cond_true, e3, Int.toNat_natCast, Int.natCast_nonneg, h5, Bool.and_self, Option.bind_some, t.new k hk, bne_self_eq_false, cond_false, wsucc (show k < 4611686018427387904 by omega)]
    · unfold F_laws_FnLogs_B0
      simp only [Int.lt_irrefl, decide_false, cond_false]
      obtain ⟨z3, e4⟩ := i_TakeEntriesN pf out more index term
      rw [took_again t l2 h4] at e4
      have hs := i_SameEntries pf (⟨z3, (fresh out).n, (fresh out).f⟩ : Sl S_impl_Entry) out (by show out.n ≤ _; omega) rfl (fun i _ => rfl)
      have hla : F_impl_LastOf plainFuel out = some (lastE out) := by unfold F_impl_LastOf; rw [i_lastN plainFuel out (by omega)]; rfl
      simp only [e4, Option.bind_some, i_FitsAt pf, t.good, t.fits, beq_self_eq_true, Bool.and_self, cond_true, hs, hla, i_UpToDateN pf, upto_end]

end Go.Proofs.Ytokpamekcpbkaaa.Pc
