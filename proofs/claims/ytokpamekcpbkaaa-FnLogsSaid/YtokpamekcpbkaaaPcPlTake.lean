/- Plain laws of entries that are taken. Conditions: none. -/
import Derived.Test.YtokpamekcpbkaaaPcPlMark
namespace Go.Proofs.Ytokpamekcpbkaaa.Pc
open Go Go.RowKit Go.Proofs Vm
set_option linter.unusedVariables false
set_option linter.unusedSimpArgs false
set_option maxRecDepth 100000

/-- Does an entry that is told not stand in the log? -/
def miss (log more : Sl S_impl_Entry) (at0 k : Nat) (_ : Unit) : Sum Nat Unit := bif decide (log.n ≤ at0 + k) || ((log.f (at0 + k)).Term != (more.f k).Term) then .inl k else .inr ()
def joined (log more : Sl S_impl_Entry) (at0 k : Nat) : Sl S_impl_Entry := ⟨none, at0 + k + (more.n - k), fun i => if i < at0 + k then log.f i else more.f (k + (i - (at0 + k)))⟩
def taken (log more : Sl S_impl_Entry) (at0 : Nat) : Sl S_impl_Entry := (run (miss log more at0) more.n 0 ()).elim (joined log more at0) (fun _ => fresh log)

theorem run_lt {α σ : Type} {f : Nat → σ → Sum α σ} {p : α → Prop} : ∀ (n i : Nat) (s : σ), (∀ j s a, i ≤ j → j < i + n → f j s = .inl a → p a) → ∀ a, run f n i s = .inl a → p a
  | 0, i, s, h, a, ha => by simp [run] at ha
  | n + 1, i, s, h, a, ha => by
    simp only [run] at ha
    cases hq : f i s with
    | inl b =>
      rw [hq] at ha
      cases ha
      exact h i s _ (Nat.le_refl _) (by omega) hq
    | inr s' =>
      rw [hq] at ha
      exact run_lt n (i + 1) s' (fun j t b h1 h2 h3 => h j t b (by omega) (by omega) h3) a ha

theorem taken_len {log more : Sl S_impl_Entry} {at0 : Nat} (hl : log.n ≤ 40) (hm : more.n ≤ 40) (ha : at0 ≤ log.n) : (taken log more at0).n ≤ 120 := by
  unfold taken
  cases hr : run (miss log more at0) more.n 0 () with
  | inr u => show log.n ≤ 120; omega
  | inl k =>
    have hk := run_lt (p := fun k => k < more.n) more.n 0 () (fun j s a h1 h2 h3 => by
      unfold miss at h3
      cases hc : (decide (log.n ≤ at0 + j) || ((log.f (at0 + j)).Term != (more.f j).Term)) with
      | false => rw [hc] at h3; cases h3
      | true => rw [hc] at h3; cases h3; omega) k hr
    show at0 + k + (more.n - k) ≤ 120
    omega

theorem s_take {fu : Nat} (hf : 2000000 ≤ fu) (log more : Sl S_impl_Entry) (at0 : Nat) (hl : log.n ≤ 40) (hm : more.n ≤ 40) (ha : at0 ≤ log.n) : F_spec_l7Take_H fu log (at0 : Int) more = some (taken log more at0) := by
  unfold F_spec_l7Take_H taken
  refine runL more.n (fun i _ => (i : Int)) () (miss log more at0) (fun k => some (joined log more at0 k)) (fun _ => some (fresh log)) (fun k _ => at0 + k ≤ log.n) (by omega) rfl (by omega) (fun k s go hk hI => ?_) (fun k s s' hk hI hs => ?_) (fun s go hI => ?_) ?_
  · unfold F_spec_l7Take_H_B0 miss
    have e1 : IntKind.wrap .i64 ((at0 : Int) + (k : Int)) = ((at0 + k : Nat) : Int) := by rw [wrap64 (by omega) (by omega)]; omega
    have hI' : at0 + k ≤ log.n := hI
    have h1 : k ≤ more.n := by omega
    have h2 : at0 + k + (more.n - k) ≤ 9223372036854775807 := by omega
    have h3 : (at0 + k + (more.n - k)) * 72 ≤ 140737488355328 := by omega
    have hcp : F_spec_l7Copy_H fu (⟨log.z, at0 + k, (fun i => log.f i)⟩ : (Sl S_impl_Entry)) = some ⟨none, at0 + k, fun i => log.f i⟩ := c_l7Copy fu (⟨log.z, at0 + k, (fun i => log.f i)⟩ : (Sl S_impl_Entry)) (by show at0 + k ≤ _; omega)
    simp only [e1, Int.toNat_natCast, Int.natCast_nonneg, Int.ofNat_lt, hk, decide_true, Bool.and_self, Bool.true_and, cond_true, Option.bind_some, wsucc (show k < 4611686018427387904 by omega), ge_iff_le, Int.ofNat_le, hI', h1, Nat.le_refl, hcp, fresh, Nat.sub_zero, h2, h3, Nat.zero_add]
    by_cases hc : log.n ≤ at0 + k
    · simp [hc, joined]
    · have hc' : at0 + k < log.n := by omega
      simp only [hc, hc', decide_true, decide_false, cond_true, cond_false, Option.bind_some, Bool.false_or]
      cases ((log.f (at0 + k)).Term != (more.f k).Term) <;> rfl
  · unfold miss at hs
    cases hc : (decide (log.n ≤ at0 + k) || ((log.f (at0 + k)).Term != (more.f k).Term)) with
    | true => rw [hc] at hs; cases hs
    | false =>
      simp only [Bool.or_eq_false_iff, decide_eq_false_iff_not] at hc
      show at0 + (k + 1) ≤ log.n
      omega
  · unfold F_spec_l7Take_H_B0
    simp [c_l7Copy fu log (by omega), fresh]
  · cases run (miss log more at0) more.n 0 () <;> rfl

theorem i_take {fu : Nat} (hf : 2000000 ≤ fu) (log more : Sl S_impl_Entry) (at0 : Nat) (hl : log.n ≤ 40) (hm : more.n ≤ 40) (ha : at0 ≤ log.n) :
    F_impl_take_H fu log (at0 : Int) more = some (bif decide (40 < (taken log more at0).n) then ⟨2, ⟨some true, 0, fun _ => dflt .impl_Entry⟩⟩ else ⟨0, taken log more at0⟩) := by
  unfold F_impl_take_H taken
  simp only [c_Clone fu log (by omega), Option.bind_some]
  refine runL more.n (fun i _ => (i : Int)) () (miss log more at0) (fun k => some (bif decide (40 < (joined log more at0 k).n) then ⟨2, ⟨some true, 0, fun _ => dflt .impl_Entry⟩⟩ else ⟨0, joined log more at0 k⟩)) (fun _ => some (bif decide (40 < (fresh log).n) then ⟨2, ⟨some true, 0, fun _ => dflt .impl_Entry⟩⟩ else ⟨0, fresh log⟩)) (fun k _ => at0 + k ≤ log.n) (by omega) rfl (by omega) (fun k s go hk hI => ?_) (fun k s s' hk hI hs => ?_) (fun s go hI => ?_) ?_
  · unfold F_impl_take_H_B0 miss F_impl_size_impl_Entry
    have e1 : IntKind.wrap .i64 ((at0 : Int) + (k : Int)) = ((at0 + k : Nat) : Int) := by rw [wrap64 (by omega) (by omega)]; omega
    have hI' : at0 + k ≤ log.n := hI
    have h1 : k ≤ more.n := by omega
    have h2 : at0 + k + (more.n - k) ≤ 9223372036854775807 := by omega
    have h3 : (at0 + k + (more.n - k)) * 72 ≤ 140737488355328 := by omega
    simp only [e1, Int.toNat_natCast, Int.natCast_nonneg, Int.ofNat_lt, hk, decide_true, Bool.and_self, Bool.true_and, cond_true, Option.bind_some, wsucc (show k < 4611686018427387904 by omega), ge_iff_le, gt_iff_lt, Int.ofNat_le, hI', h1, Nat.le_refl, fresh, Nat.sub_zero, h2, h3, Nat.zero_add]
    by_cases hc : log.n ≤ at0 + k
    · have hc' : ¬ at0 + k < log.n := by omega
      simp only [hc, hc', decide_true, decide_false, cond_true, cond_false, Option.bind_some, Bool.true_or, Sum.elim_inl, joined]
      by_cases h40 : 40 < at0 + k + (more.n - k)
      · have h40' : (40 : Int) < ((at0 + k + (more.n - k) : Nat) : Int) := by omega
        simp only [h40, h40', decide_true, cond_true]
      · have h40' : ¬ (40 : Int) < ((at0 + k + (more.n - k) : Nat) : Int) := by omega
        simp only [h40, h40', decide_false, cond_false]
    · have hc' : at0 + k < log.n := by omega
      simp only [hc, hc', decide_true, decide_false, cond_true, cond_false, Option.bind_some, Bool.false_or, bne]
      cases ((log.f (at0 + k)).Term == (more.f k).Term) with
      | true => rfl
      | false =>
        simp only [Bool.not_false, cond_true, cond_false, Sum.elim_inl, joined]
        by_cases h40 : 40 < at0 + k + (more.n - k)
        · have h40' : (40 : Int) < ((at0 + k + (more.n - k) : Nat) : Int) := by omega
          simp only [h40, h40', decide_true, cond_true]
        · have h40' : ¬ (40 : Int) < ((at0 + k + (more.n - k) : Nat) : Int) := by omega
          simp only [h40, h40', decide_false, cond_false]
  · unfold miss at hs
    cases hc : (decide (log.n ≤ at0 + k) || ((log.f (at0 + k)).Term != (more.f k).Term)) with
    | true => rw [hc] at hs; cases hs
    | false =>
      simp only [Bool.or_eq_false_iff, decide_eq_false_iff_not] at hc
      show at0 + (k + 1) ≤ log.n
      omega
  · unfold F_impl_take_H_B0
    have h40 : ¬ 40 < log.n := by omega
    have h40' : ¬ (log.n : Int) > 40 := by omega
    simp [fresh, h40, h40']
  · cases run (miss log more at0) more.n 0 () <;> rfl

/-- A log behind entries that are taken. -/
def noE : Sl S_impl_Entry := ⟨none, 0, fun _ => dflt .impl_Entry⟩
def takeR (log : Sl S_impl_Entry) (index term : Int) (more : Sl S_impl_Entry) : S_impl_EntriesResult :=
  bif logf log != 0 then ⟨logf log, noE⟩ else bif logf more != 0 then ⟨logf more, noE⟩ else
  bif !fitl log index term then ⟨9, noE⟩ else bif decide (0 < more.n) && decide ((more.f 0).Term < term) then ⟨1, noE⟩ else
  bif decide (40 < (taken log more index.toNat).n) then ⟨2, noE⟩ else ⟨0, taken log more index.toNat⟩

/-- The same result, its row perhaps nil. -/
def likeR (x : Option S_impl_EntriesResult) (r : S_impl_EntriesResult) : Prop := ∃ z, x = some ⟨r.Code, ⟨z, r.Entries.n, r.Entries.f⟩⟩

theorem takeR_len (log : Sl S_impl_Entry) (index term : Int) (more : Sl S_impl_Entry) : (takeR log index term more).Entries.n ≤ 40 := by
  unfold takeR noE
  cases (logf log != 0) <;> cases (logf more != 0) <;> cases (!fitl log index term) <;> cases (decide (0 < more.n) && decide ((more.f 0).Term < term)) <;> simp only [cond_true, cond_false] <;> first | exact Nat.zero_le _ | skip
  by_cases h : 40 < (taken log more index.toNat).n
  · simp [h]
  · simp only [h, decide_false, cond_false]; omega

theorem taken_z (log more : Sl S_impl_Entry) (a : Nat) : (⟨none, (taken log more a).n, (taken log more a).f⟩ : Sl S_impl_Entry) = taken log more a := by
  unfold taken
  cases run (miss log more a) more.n 0 () <;> rfl
theorem takeR_z (log : Sl S_impl_Entry) (index term : Int) (more : Sl S_impl_Entry) : (⟨(takeR log index term more).Code, ⟨none, (takeR log index term more).Entries.n, (takeR log index term more).Entries.f⟩⟩ : S_impl_EntriesResult) = takeR log index term more := by
  unfold takeR
  cases (logf log != 0) <;> cases (logf more != 0) <;> cases (!fitl log index term) <;> cases (decide (0 < more.n) && decide ((more.f 0).Term < term)) <;> simp only [cond_true, cond_false] <;> first | rfl | skip
  cases decide (40 < (taken log more index.toNat).n) with
  | true => rfl
  | false => simp only [cond_false, taken_z]

theorem fitl_at {log : Sl S_impl_Entry} {index term : Int} (h : fitl log index term = true) : 0 ≤ index ∧ index.toNat ≤ log.n := by
  unfold fitl at h
  by_cases h0 : index = 0
  · subst h0; simp
  · have : (index == 0) = false := by simpa using h0
    rw [this] at h
    simp only [cond_false] at h
    cases hr : rng index 1 (log.n : Int) with
    | false => rw [hr] at h; cases h
    | true =>
      simp only [rng, Bool.and_eq_true, decide_eq_true_eq] at hr
      omega

theorem cp_z {α β : Type} (T : α → β) (d : β) (x : Sl α) : (⟨none, (cp T d x).n, (cp T d x).f⟩ : Sl β) = cp T d x := rfl

end Go.Proofs.Ytokpamekcpbkaaa.Pc
