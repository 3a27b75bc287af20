/- Tools of the plain laws. Conditions: none. -/
import Derived.Test.YtcmfekgdlaffkaaPqF7
import Derived.Test.YtcmfekgdlaffkaaVmP
namespace Go.Proofs.Ytcmfekgdlaffkaa.Pq
open Go Go.RowKit Go.Proofs Vm
set_option linter.unusedVariables false
set_option linter.unusedSimpArgs false
set_option maxRecDepth 100000
theorem wsucc {i : Nat} (h : i < 4611686018427387904) : IntKind.wrap .i64 ((i : Int) + 1) = ((i + 1 : Nat) : Int) := by
  rw [wrap64 (by omega) (by omega)]; omega
theorem wpred {i : Nat} (h0 : 0 < i) (h : i < 4611686018427387904) : IntKind.wrap .i64 ((i : Int) - 1) = ((i - 1 : Nat) : Int) := by
  rw [wrap64 (by omega) (by omega)]; omega
def rng (a b c : Int) : Bool := decide (b ≤ a) && decide (a ≤ c)
theorem p_l1In (fu : Nat) (a b c : Int) : F_spec_l1In fu a b c = some (rng a b c) := by
  unfold F_spec_l1In rng
  by_cases h : b ≤ a <;> simp [h]
theorem p_in (fu : Nat) (a b c : Int) : F_impl_in fu a b c = some (rng a b c) := by
  unfold F_impl_in rng
  by_cases h : b ≤ a <;> simp [h]
theorem p_isName (fu : Nat) (k : Int) : F_impl_isName fu k = F_spec_l3Name fu k := by unfold F_impl_isName F_spec_l3Name; rw [p_l1In, p_in]
theorem p_isAddress (fu : Nat) (k : Int) : F_impl_isAddress fu k = F_spec_l2Address fu k := by unfold F_impl_isAddress F_spec_l2Address; rw [p_l1In, p_in]
theorem p_isPort (fu : Nat) (k : Int) : F_impl_isPort fu k = F_spec_l2Port fu k := by unfold F_impl_isPort F_spec_l2Port; rw [p_l1In, p_in]
theorem p_isProto (fu : Nat) (k : Int) : F_impl_isProto fu k = F_spec_l5Proto fu k := rfl
theorem p_l3Name (fu : Nat) (k : Int) : F_spec_l3Name fu k = some (rng k 1 999) := by unfold F_spec_l3Name; simp [p_l1In]
theorem p_l2Address (fu : Nat) (k : Int) : F_spec_l2Address fu k = some (rng k 0 4294967295) := by unfold F_spec_l2Address; simp [p_l1In]
theorem p_l2Port (fu : Nat) (k : Int) : F_spec_l2Port fu k = some (rng k 0 65535) := by unfold F_spec_l2Port; simp [p_l1In]
theorem p_l5Version (fu : Nat) (k : Int) : F_spec_l5Version fu k = some (rng k 0 1000000) := by unfold F_spec_l5Version; simp [p_l1In]
theorem to_loop {α β ρ : Type} (n : Nat) (f : Nat → α) (T : α → β) (d : β) (B : Int × (Nat → β) → (Int × (Nat → β) → Option ρ) → Option ρ) (k0 : (Nat → β) → Option ρ)
    (hB : ∀ (i : Nat) (o : Nat → β) (go : Int × (Nat → β) → Option ρ), i ≤ n → B ((i : Int), o) go = if i < n then go (((i + 1 : Nat) : Int), fun j => if j = i then T (f i) else o j) else k0 o) (fu : Nat) (hf : n < fu) :
    L B fu ((0 : Int), fun _ => d) = k0 (fun j => if j < n then T (f j) else d) := by
  have h := L_run (α := Unit) (σ := Unit) (B := B) (fun i _ => ((i : Int), fun j => if j < i then T (f j) else d)) n (fun _ s => .inr s) (fun _ => none) (fun _ => k0 (fun j => if j < n then T (f j) else d))
    (fun i s go hi => by
      rw [hB i _ go (by omega), if_pos hi]
      dsimp only
      congr 2
      funext j
      by_cases h1 : j = i
      · subst h1; simp
      · by_cases h2 : j < i
        · have : j < i + 1 := by omega
          simp [h1, h2, this]
        · have : ¬ j < i + 1 := by omega
          simp [h1, h2, this])
    (fun s go => by rw [hB n _ go (Nat.le_refl _), if_neg (by omega)]) n 0 () fu (by omega) hf
  have e : ∀ m i, run (α := Unit) (fun _ (s : Unit) => .inr s) m i () = .inr () := by
    intro m
    induction m with
    | zero => intro i; rfl
    | succ m ih => intro i; simp only [run]; exact ih _
  rw [e] at h
  simpa using h
def cp {α β : Type} (T : α → β) (d : β) (x : Sl α) : Sl β := ⟨none, x.n, fun j => if j < x.n then T (x.f j) else d⟩
theorem scan_all_none {α : Type} (n : Nat) (g : Nat → Option α) (h : ∀ i, i < n → g i = none) : scan g n 0 = none := scan_none.2 (fun j _ hj => h j (by omega))
theorem scan_some {α : Type} {f : Nat → Option α} {a : α} : ∀ {m i : Nat}, scan f m i = some a → ∃ j, i ≤ j ∧ j < i + m ∧ f j = some a
  | 0, i, h => by simp [scan_zero] at h
  | m + 1, i, h => by
    rw [scan_succ] at h
    cases hq : f i with
    | some b =>
      rw [hq] at h
      have h := Option.some.inj h; subst h
      exact ⟨i, Nat.le_refl _, by omega, hq⟩
    | none =>
      rw [hq] at h
      obtain ⟨j, h1, h2, h3⟩ := scan_some h
      exact ⟨j, by omega, by omega, h3⟩
def plainFuel : Nat := 2000000
theorem pf : 2000000 ≤ plainFuel := Nat.le_refl _
theorem sz_cut {left : Int} {n : Nat} (h0 : 0 ≤ left) (h1 : left ≤ 1048576) (hn : n ≤ maxLen) {y : Int} (hy : (if IntKind.wrap .i64 (left - (n : Int)) < 0 then (-1 : Int) else IntKind.wrap .i64 (left - (n : Int))) = y) (h : ¬ y < 0) : y = left - n ∧ (n : Int) ≤ left := by
  simp only [maxLen] at hn
  rw [wrap64 (by omega) (by omega)] at hy
  split at hy <;> omega
def allb (n : Nat) (g : Nat → Bool) : Bool := (List.range n).all g
theorem allb_iff {n : Nat} {g : Nat → Bool} : allb n g = true ↔ ∀ i, i < n → g i = true := by simp [allb]
theorem allb_congr {n : Nat} {g h : Nat → Bool} (e : ∀ i, i < n → g i = h i) : allb n g = allb n h := by
  rw [Bool.eq_iff_iff, allb_iff, allb_iff]
  exact ⟨fun a i hi => by rw [← e i hi]; exact a i hi, fun a i hi => by rw [e i hi]; exact a i hi⟩
theorem allb_and (n : Nat) (g h : Nat → Bool) : allb n (fun i => g i && h i) = (allb n g && allb n h) := by
  rw [Bool.eq_iff_iff, Bool.and_eq_true, allb_iff, allb_iff, allb_iff]
  constructor
  · intro a
    exact ⟨fun i hi => ((Bool.and_eq_true _ _).mp (a i hi)).1, fun i hi => ((Bool.and_eq_true _ _).mp (a i hi)).2⟩
  · rintro ⟨a, b⟩ i hi
    exact (Bool.and_eq_true _ _).mpr ⟨a i hi, b i hi⟩
theorem L_all {ρ V : Type} {B : V → (V → Option ρ) → Option ρ} (st : Nat → V) (n i0 : Nat) (bad : Nat → Bool) (k0 k1 : Option ρ) (h0 : i0 ≤ n)
    (h1 : ∀ i go, i0 ≤ i → i < n → B (st i) go = bif bad i then k0 else go (st (i + 1))) (h2 : ∀ go, B (st n) go = k1) (fu : Nat) (hf : n < fu) :
    L B fu (st i0) = bif allb n (fun i => decide (i < i0) || !bad i) then k1 else k0 := by
  have key : ∀ m i fu, i + m = n → m < fu → i0 ≤ i → L B fu (st i) = bif allb n (fun j => decide (j < i) || !bad j) then k1 else k0 := by
    intro m
    induction m with
    | zero =>
      intro i fu hi hf hl
      obtain ⟨fu, rfl⟩ : ∃ k, fu = k + 1 := ⟨fu - 1, by omega⟩
      have : i = n := by omega
      subst this
      have e : allb i (fun j => decide (j < i) || !bad j) = true := allb_iff.2 (fun j hj => by simp [hj])
      rw [e]
      simp only [L, h2, cond_true]
    | succ m ih =>
      intro i fu hi hf hl
      obtain ⟨fu, rfl⟩ : ∃ k, fu = k + 1 := ⟨fu - 1, by omega⟩
      simp only [L]
      rw [h1 i _ hl (by omega)]
      cases hb : bad i with
      | true =>
        have e : allb n (fun j => decide (j < i) || !bad j) = false := by
          rw [Bool.eq_false_iff]
          intro h
          have := allb_iff.1 h i (by omega)
          simp [hb] at this
        rw [e]; rfl
      | false =>
        simp only [cond_false]
        rw [ih (i + 1) fu (by omega) (by omega) (by omega)]
        congr 1
        refine allb_congr (fun j hj => ?_)
        by_cases hji : j = i
        · subst hji; simp [hb]
        · have : decide (j < i + 1) = decide (j < i) := by
            rw [decide_eq_decide]; omega
          rw [this]
  exact key (n - i0) i0 fu (by omega) (by omega) (Nat.le_refl _)
theorem L_all0 {ρ V : Type} {B : V → (V → Option ρ) → Option ρ} (st : Nat → V) (n : Nat) (bad : Nat → Bool) (k0 k1 : Option ρ)
    (h1 : ∀ i go, i < n → B (st i) go = bif bad i then k0 else go (st (i + 1))) (h2 : ∀ go, B (st n) go = k1) (fu : Nat) (hf : n < fu) :
    L B fu (st 0) = bif allb n (fun i => !bad i) then k1 else k0 := by
  rw [L_all st n 0 bad k0 k1 (Nat.zero_le _) (fun i go _ hi => h1 i go hi) h2 fu hf]
  simp
def szf (left : Int) (n : Nat) : Int := if IntKind.wrap .i64 (left - (n : Int)) < 0 then -1 else IntKind.wrap .i64 (left - (n : Int))
theorem szf_cut {left : Int} {n : Nat} (h0 : 0 ≤ left) (h1 : left ≤ 1048576) (hn : n ≤ maxLen) (h : ¬ szf left n < 0) : szf left n = left - n ∧ (n : Int) ≤ left := sz_cut h0 h1 hn rfl h
structure Szd (left y : Int) (p : Prop) : Prop where
  neg : y < 0 ∨ (0 ≤ y ∧ y ≤ left ∧ p)
theorem sz_one {left : Int} {n : Nat} (h0 : 0 ≤ left) (h1 : left ≤ 1048576) (hn : n ≤ maxLen) : Szd left (szf left n) (n ≤ 1048576) := ⟨by
  by_cases h : szf left n < 0
  · exact .inl h
  · obtain ⟨a, b⟩ := szf_cut h0 h1 hn h
    exact .inr ⟨by omega, by omega, by omega⟩⟩
theorem sz_loop {ρ : Type} (n : Nat) (B : Int × Int → (Int × Int → Option ρ) → Option ρ) (good : Nat → Prop) (k0 k1 : Int → Option ρ)
    (h1 : ∀ (i : Nat) (l : Int) go, i < n → 0 ≤ l → l ≤ 1048576 → ∃ y, Szd l y (good i) ∧ B (l, (i : Int)) go = bif decide (y < 0) then k0 y else go (y, ((i + 1 : Nat) : Int))) (h2 : ∀ l go, B (l, (n : Int)) go = k1 l) :
    ∀ (m i : Nat) (l : Int) (fu : Nat), i + m = n → m < fu → 0 ≤ l → l ≤ 1048576 → (∃ y, y < 0 ∧ L B fu (l, (i : Int)) = k0 y) ∨ (∃ y, 0 ≤ y ∧ y ≤ l ∧ (∀ j, i ≤ j → j < n → good j) ∧ L B fu (l, (i : Int)) = k1 y)
  | 0, i, l, fu, hi, hf, hl, hl' => by
    obtain ⟨fu, rfl⟩ : ∃ k, fu = k + 1 := ⟨fu - 1, by omega⟩
    have : i = n := by omega
    subst this
    exact .inr ⟨l, hl, Int.le_refl _, fun j h1 h2 => by omega, by simp only [L, h2]⟩
  | m + 1, i, l, fu, hi, hf, hl, hl' => by
    obtain ⟨fu, rfl⟩ : ∃ k, fu = k + 1 := ⟨fu - 1, by omega⟩
    obtain ⟨y, hy, hB⟩ := h1 i l (L B fu) (by omega) hl hl'
    simp only [L, hB]
    rcases hy.neg with hn | ⟨hp, hpl, hg⟩
    · exact .inl ⟨y, hn, by simp [hn]⟩
    · simp only [show ¬ y < 0 by omega, decide_false, cond_false]
      rcases sz_loop n B good k0 k1 h1 h2 m (i + 1) y fu (by omega) (by omega) hp (by omega) with ⟨z, hz, he⟩ | ⟨z, hz, hzl, hall, he⟩
      · exact .inl ⟨z, hz, he⟩
      · refine .inr ⟨z, hz, by omega, fun j h1 h2 => ?_, he⟩
        by_cases hj : j = i
        · subst hj; exact hg
        · exact hall j (by omega) h2
theorem scanL {ρ α : Type} {B : Int → (Int → Option ρ) → Option ρ} {fu : Nat} {r : Option ρ} (n : Nat) (g : Nat → Option α) (f : α → Option ρ) (k1 : Option ρ) (hf : n < fu)
    (h1 : ∀ (i : Nat) (go : Int → Option ρ), i < n → B (i : Int) go = (g i).elim (go ((i + 1 : Nat) : Int)) f) (h2 : ∀ go, B (n : Int) go = k1) (hr : (scan g n 0).elim k1 f = r) : L B fu (0 : Int) = r := by
  have h := L_scanE (B := B) (fun i => (i : Int)) n g f k1 (fun i go hi => by rw [h1 i go hi]; cases g i <;> rfl) h2 n 0 fu (by omega) hf
  rw [show ((0 : Nat) : Int) = 0 from rfl] at h
  rw [h]; exact hr
theorem allL {ρ : Type} {B : Int → (Int → Option ρ) → Option ρ} {fu : Nat} {r : Option ρ} (n : Nat) (ok : Nat → Bool) (k0 k1 : Option ρ) (hf : n < fu)
    (h1 : ∀ (i : Nat) (go : Int → Option ρ), i < n → B (i : Int) go = bif ok i then go ((i + 1 : Nat) : Int) else k0) (h2 : ∀ go, B (n : Int) go = k1) (hr : (bif allb n ok then k1 else k0) = r) : L B fu (0 : Int) = r := by
  have h := L_all0 (B := B) (fun i => (i : Int)) n (fun i => !ok i) k0 k1 (fun i go hi => by rw [h1 i go hi]; cases ok i <;> rfl) h2 fu hf
  rw [show ((0 : Nat) : Int) = 0 from rfl] at h
  rw [h]
  simp only [Bool.not_not]; exact hr
theorem allL1 {ρ : Type} {B : Int → (Int → Option ρ) → Option ρ} {fu : Nat} {r : Option ρ} (n : Nat) (ok : Nat → Bool) (k0 k1 : Option ρ) (hf : n < fu)
    (h1 : ∀ (i : Nat) (go : Int → Option ρ), 1 ≤ i → i < n → B (i : Int) go = bif ok i then go ((i + 1 : Nat) : Int) else k0) (h2 : ∀ (i : Nat) go, n ≤ i → B (i : Int) go = k1) (hr : (bif allb n (fun i => decide (i = 0) || ok i) then k1 else k0) = r) : L B fu (1 : Int) = r := by
  by_cases h0 : n = 0
  · subst h0
    obtain ⟨fu, rfl⟩ : ∃ k, fu = k + 1 := ⟨fu - 1, by omega⟩
    simp only [L]
    rw [show (1 : Int) = ((1 : Nat) : Int) from rfl, h2 1 _ (by omega)]
    exact hr
  · have h := L_all (B := B) (fun i => (i : Int)) n 1 (fun i => !ok i) k0 k1 (by omega) (fun i go h1' hi => by rw [h1 i go h1' hi]; cases ok i <;> rfl) (fun go => h2 n go (Nat.le_refl _)) fu (by omega)
    rw [show ((1 : Nat) : Int) = 1 from rfl] at h
    rw [h, ← hr]
    have e : allb n (fun i => decide (i < 1) || !!ok i) = allb n (fun i => decide (i = 0) || ok i) := allb_congr (fun i _ => by
      rw [Bool.not_not, show decide (i < 1) = decide (i = 0) from decide_eq_decide.2 (by omega)])
    rw [e]
theorem toL {α β : Type} {B : Int × (Nat → β) → (Int × (Nat → β) → Option (Sl β)) → Option (Sl β)} {fu : Nat} {d : β} (x : Sl α) (T : α → β) (hf : x.n < fu)
    (hB : ∀ (i : Nat) (o : Nat → β) (go : Int × (Nat → β) → Option (Sl β)), i ≤ x.n → B ((i : Int), o) go = if i < x.n then go (((i + 1 : Nat) : Int), fun j => if j = i then T (x.f i) else o j) else some ⟨none, x.n, o⟩) :
    L B fu ((0 : Int), fun _ => d) = some (cp T d x) := to_loop x.n x.f T d B (fun z => some ⟨none, x.n, z⟩) hB fu hf
theorem eqL {B : Int → (Int → Option Bool) → Option Bool} {fu : Nat} (n : Nat) (hf : n < fu) (h1 : ∀ (i : Nat) (go : Int → Option Bool), i < n → B (i : Int) go = go ((i + 1 : Nat) : Int)) (h2 : ∀ go, B (n : Int) go = some true) : L B fu (0 : Int) = some true :=
  allL n (fun _ => true) (some false) (some true) hf (fun i go hi => h1 i go hi) h2 (by rw [show allb n (fun _ => true) = true from allb_iff.2 (fun _ _ => rfl)]; rfl)
theorem runL {ρ V α σ : Type} {B : V → (V → Option ρ) → Option ρ} {fu : Nat} {r : Option ρ} {v : V} (n : Nat) (st : Nat → σ → V) (s : σ) (f : Nat → σ → Sum α σ) (kr : α → Option ρ) (ke : σ → Option ρ) (I : Nat → σ → Prop) (hf : n < fu) (hv : v = st 0 s) (h0 : I 0 s)
    (h1 : ∀ i s go, i < n → I i s → B (st i s) go = (f i s).elim kr (fun s' => go (st (i + 1) s'))) (hI : ∀ i s s', i < n → I i s → f i s = .inr s' → I (i + 1) s') (h2 : ∀ s go, I n s → B (st n s) go = ke s) (hr : (run f n 0 s).elim kr ke = r) : L B fu v = r := by
  subst hv
  have h := L_runI (B := B) st n f kr ke I (fun i s go hi hs => by rw [h1 i s go hi hs]; cases f i s <;> rfl) hI h2 n 0 s fu (by omega) hf h0
  rw [h, ← hr]
  cases run f n 0 s <;> rfl
end Go.Proofs.Ytcmfekgdlaffkaa.Pq
