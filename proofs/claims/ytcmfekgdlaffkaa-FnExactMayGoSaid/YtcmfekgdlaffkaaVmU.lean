/- The value machine: functions that hand rows of own rows over, or turn such that are lent. Conditions: none. -/
import Derived.Test.YtcmfekgdlaffkaaVmT
namespace Go.Proofs.Ytcmfekgdlaffkaa.Vm
open Go Go.RowKit
set_option linter.unusedVariables false
set_option linter.unusedSimpArgs false
variable {RT : Type} {den : RT → Type} {E : Env RT den} {P : Program}
def giveC (E : Env RT den) (p : Nat) (os : List (Ob RT den)) : List (D RT den) → Nat → Option (Bool × List (D RT den) × List (Ob RT den) × List (Option (Nat × Nat)))
  | [], _ => some (true, [], [], [])
  | c :: cs, k => match c with
    | .os o len => bif decide (o < p) then none else match obj os o with
      | .row false τ n f => (giveC E p os cs (k + 1)).bind fun r => some (r.1, .os k len :: r.2.1, .row false τ len f :: r.2.2.1, some (o, len) :: r.2.2.2)
      | .deep false τ n q f => (giveC E p os cs (k + 1)).bind fun r => some (decide (len ≤ q) && r.1, .os k len :: r.2.1, .deep false τ len len f :: r.2.2.1, some (o, len) :: r.2.2.2)
      | _ => none
    | .emp z τ => (giveC E p os cs (k + 1)).bind fun r => some (r.1, .os k 0 :: r.2.1, (bif E.scl τ then .row false τ 0 (fun _ => E.dflt τ) else .deep false τ 0 0 (fun _ => E.dflt τ)) :: r.2.2.1, none :: r.2.2.2)
    | c => bif c.sc then (giveC E p os cs k).bind fun r => some (r.1, c :: r.2.1, r.2.2.1, r.2.2.2) else none
def give (E : Env RT den) (p : Nat) (os : List (Ob RT den)) (d : D RT den) : Option (Bool × D RT den × List (Ob RT den)) :=
  match d with
  | .agg cs => (giveC E p os cs p).bind fun x => bif nodupB x.2.2.2 then some (x.1, .agg x.2.1, os.take p ++ x.2.2.1) else none
  | d => (giveC E p os [d] p).bind fun x => bif nodupB x.2.2.2 then (match x.2.1 with | [d'] => some (x.1, d', os.take p ++ x.2.2.1) | _ => none) else none
def capH (H : List Nat → Option (Nat × (Nat × Nat))) (len : Nat) (q : List Nat) : Option (Nat × (Nat × Nat)) :=
  match q with
  | a :: t => if a < len then H (a :: t) else none
  | [] => none
def giveB (p : Nat) (b0 β : Bet) (S : List (Option (Nat × Nat))) : Bet := ⟨fun i => if i < p then b0 i else match S[i - p]? with
  | some (some s) => (β s.1).map fun x => (x.1, (s.2, x.2.2))
  | _ => none, fun i q => if i < p then b0.h i q else match S[i - p]? with
  | some (some s) => capH (β.h s.1) s.2 q
  | _ => none⟩
theorem giveB_r0 {p : Nat} {b0 β : Bet} {S : List (Option (Nat × Nat))} {i : Nat} (h : i < p) : (giveB p b0 β S) i = b0 i := by show (if i < p then _ else _) = _; rw [if_pos h]
theorem giveB_h0 {p : Nat} {b0 β : Bet} {S : List (Option (Nat × Nat))} {i : Nat} (h : i < p) (q : List Nat) : (giveB p b0 β S).h i q = b0.h i q := by show (if i < p then _ else _) = _; rw [if_pos h]
theorem giveB_r1 {p : Nat} {b0 β : Bet} {S : List (Option (Nat × Nat))} {i : Nat} {y : Nat × (Nat × Nat)} (h : ¬ i < p) (hb : (giveB p b0 β S) i = some y) : ∃ o len m, S[i - p]? = some (some (o, len)) ∧ β o = some (y.1, m) ∧ y.2 = (len, m.2) := by
  replace hb : (if i < p then b0 i else match S[i - p]? with
    | some (some s) => (β s.1).map fun x => (x.1, (s.2, x.2.2))
    | _ => none) = some y := hb
  rw [if_neg h] at hb
  split at hb
  · rename_i s hs
    simp only [Option.map_eq_some_iff] at hb
    obtain ⟨x, hx, rfl⟩ := hb
    exact ⟨s.1, s.2, x.2, hs, hx, rfl⟩
  · cases hb
theorem giveB_new {p k : Nat} {b0 β : Bet} {S : List (Option (Nat × Nat))} {o len b : Nat} {m : Nat × Nat} (hk : p ≤ k) (hS : S[k - p]? = some (some (o, len))) (hb : β o = some (b, m)) : (giveB p b0 β S) k = some (b, (len, m.2)) := by
  show (if k < p then _ else _) = _
  rw [if_neg (by omega), hS]
  simp [hb]
theorem giveB_h1 {p : Nat} {b0 β : Bet} {S : List (Option (Nat × Nat))} {i : Nat} {q : List Nat} {y : Nat × (Nat × Nat)} (h : ¬ i < p) (hb : (giveB p b0 β S).h i q = some y) : ∃ o len a t, S[i - p]? = some (some (o, len)) ∧ q = a :: t ∧ a < len ∧ β.h o (a :: t) = some y := by
  replace hb : (if i < p then b0.h i q else match S[i - p]? with
    | some (some s) => capH (β.h s.1) s.2 q
    | _ => none) = some y := hb
  rw [if_neg h] at hb
  split at hb
  · rename_i s hs
    cases q with
    | nil => cases hb
    | cons a t =>
      simp only [capH] at hb
      split at hb
      · rename_i hlt; exact ⟨s.1, s.2, a, t, hs, rfl, hlt, hb⟩
      · cases hb
  · cases hb
theorem giveB_hn {p k : Nat} {b0 β : Bet} {S : List (Option (Nat × Nat))} {o len a : Nat} {t : List Nat} (hk : p ≤ k) (hS : S[k - p]? = some (some (o, len))) (ha : a < len) : (giveB p b0 β S).h k (a :: t) = β.h o (a :: t) := by
  show (if k < p then _ else _) = _
  rw [if_neg (by omega), hS]
  simp [capH, ha]
theorem giveC_get {p : Nat} {os : List (Ob RT den)} : ∀ {cs : List (D RT den)} {k : Nat} {x : Bool × List (D RT den) × List (Ob RT den) × List (Option (Nat × Nat))}, giveC E p os cs k = some x → x.1 = true →
    x.2.1.length = cs.length ∧ x.2.2.1.length = x.2.2.2.length ∧
    (∀ (i o len : Nat), x.2.2.2[i]? = some (some (o, len)) → p ≤ o ∧ .os o len ∈ cs ∧ ((∃ τ n f, os[o]? = some (.row false τ n f) ∧ x.2.2.1[i]? = some (.row false τ len f)) ∨ ∃ τ n q f, os[o]? = some (.deep false τ n q f) ∧ len ≤ q ∧ x.2.2.1[i]? = some (.deep false τ len len f))) ∧
    (∀ (i : Nat) ob, x.2.2.1[i]? = some ob → ob ≠ .gone ∧ ∀ l τ n q f, ob = .deep l τ n q f → n ≤ q) ∧
    (∀ (j : Nat) c' c, x.2.1[j]? = some c' → cs[j]? = some c → (∃ o len i, c = .os o len ∧ c' = .os (k + i) len ∧ x.2.2.2[i]? = some (some (o, len))) ∨ (∃ z τ i, c = .emp z τ ∧ c' = .os (k + i) 0) ∨ (c' = c ∧ c.sc = true))
  | [], k, x, h, hx => by simp only [giveC, Option.some.injEq] at h; subst h; simp
  | c :: cs, k, x, h, hx => by
    have step : ∀ (r : Bool × List (D RT den) × List (Ob RT den) × List (Option (Nat × Nat))) (d : D RT den) (ob : Ob RT den) (z : Option (Nat × Nat)), giveC E p os cs (k + 1) = some r → r.1 = true → x.2 = (d :: r.2.1, ob :: r.2.2.1, z :: r.2.2.2) →
        (∀ o len, z = some (o, len) → p ≤ o ∧ .os o len ∈ (c :: cs) ∧ ((∃ τ n f, os[o]? = some (.row false τ n f) ∧ ob = .row false τ len f) ∨ ∃ τ n q f, os[o]? = some (.deep false τ n q f) ∧ len ≤ q ∧ ob = .deep false τ len len f)) → (ob ≠ .gone ∧ ∀ l τ n q f, ob = .deep l τ n q f → n ≤ q) →
        ((∃ o len, c = .os o len ∧ d = .os k len ∧ z = some (o, len)) ∨ ∃ z0 τ, c = .emp z0 τ ∧ d = .os k 0) → x.2.1.length = (c :: cs).length ∧ x.2.2.1.length = x.2.2.2.length ∧
    (∀ (i o len : Nat), x.2.2.2[i]? = some (some (o, len)) → p ≤ o ∧ .os o len ∈ (c :: cs) ∧ ((∃ τ n f, os[o]? = some (.row false τ n f) ∧ x.2.2.1[i]? = some (.row false τ len f)) ∨ ∃ τ n q f, os[o]? = some (.deep false τ n q f) ∧ len ≤ q ∧ x.2.2.1[i]? = some (.deep false τ len len f))) ∧
    (∀ (i : Nat) ob, x.2.2.1[i]? = some ob → ob ≠ .gone ∧ ∀ l τ n q f, ob = .deep l τ n q f → n ≤ q) ∧
    (∀ (j : Nat) c' c0, x.2.1[j]? = some c' → (c :: cs)[j]? = some c0 → (∃ o len i, c0 = .os o len ∧ c' = .os (k + i) len ∧ x.2.2.2[i]? = some (some (o, len))) ∨ (∃ z τ i, c0 = .emp z τ ∧ c' = .os (k + i) 0) ∨ (c' = c0 ∧ c0.sc = true)) := by
      intro r d ob z hr hr1 e hz hob hcd
      obtain ⟨g1, g2, g3, g4, g5⟩ := giveC_get hr hr1
      rw [e]
      dsimp only
      refine ⟨by simp [g1], by simp [g2], fun i o len hi => ?_, fun i ob' hi => ?_, fun j c' c0 hc' hc0 => ?_⟩
      · cases i with
        | zero =>
          simp only [List.getElem?_cons_zero, Option.some.injEq] at hi ⊢
          exact hz o len hi
        | succ i =>
          obtain ⟨f1, f2, f3⟩ := g3 i o len (by simpa using hi)
          exact ⟨f1, List.mem_cons_of_mem _ f2, by simpa using f3⟩
      · cases i with
        | zero => simp only [List.getElem?_cons_zero, Option.some.injEq] at hi; subst hi; exact hob
        | succ i => exact g4 i ob' (by simpa using hi)
      · cases j with
        | zero =>
          simp only [List.getElem?_cons_zero, Option.some.injEq] at hc' hc0
          subst hc'; subst hc0
          rcases hcd with ⟨o, len, e1, e2, e3⟩ | ⟨z0, τ, e1, e2⟩
          · exact .inl ⟨o, len, 0, e1, e2, by simp [e3]⟩
          · exact .inr (.inl ⟨z0, τ, 0, e1, e2⟩)
        | succ j =>
          simp only [List.getElem?_cons_succ] at hc' hc0
          rcases g5 j c' c0 hc' hc0 with ⟨o, len, i, e1, e2, e3⟩ | ⟨z0, τ, i, e1, e2⟩ | h9
          · exact .inl ⟨o, len, i + 1, e1, by rw [e2]; congr 1; omega, by simpa using e3⟩
          · exact .inr (.inl ⟨z0, τ, i + 1, e1, by rw [e2]; congr 1; omega⟩)
          · exact .inr (.inr h9)
    have same : ∀ (d : D RT den), d = c → (bif d.sc then (giveC E p os cs k).bind fun r => some (r.1, d :: r.2.1, r.2.2.1, r.2.2.2) else none) = some x → x.2.1.length = (c :: cs).length ∧ x.2.2.1.length = x.2.2.2.length ∧
    (∀ (i o len : Nat), x.2.2.2[i]? = some (some (o, len)) → p ≤ o ∧ .os o len ∈ (c :: cs) ∧ ((∃ τ n f, os[o]? = some (.row false τ n f) ∧ x.2.2.1[i]? = some (.row false τ len f)) ∨ ∃ τ n q f, os[o]? = some (.deep false τ n q f) ∧ len ≤ q ∧ x.2.2.1[i]? = some (.deep false τ len len f))) ∧
    (∀ (i : Nat) ob, x.2.2.1[i]? = some ob → ob ≠ .gone ∧ ∀ l τ n q f, ob = .deep l τ n q f → n ≤ q) ∧
    (∀ (j : Nat) c' c0, x.2.1[j]? = some c' → (c :: cs)[j]? = some c0 → (∃ o len i, c0 = .os o len ∧ c' = .os (k + i) len ∧ x.2.2.2[i]? = some (some (o, len))) ∨ (∃ z τ i, c0 = .emp z τ ∧ c' = .os (k + i) 0) ∨ (c' = c0 ∧ c0.sc = true)) := by
      intro d e hh
      subst e
      cases hs : d.sc with
      | false => rw [hs] at hh; cases hh
      | true =>
        rw [hs] at hh
        simp only [cond_true, Option.bind_eq_some_iff, Option.some.injEq] at hh
        obtain ⟨r, hr, rfl⟩ := hh
        obtain ⟨g1, g2, g3, g4, g5⟩ := giveC_get hr hx
        refine ⟨by simp [g1], g2, fun i o len hi => ⟨(g3 i o len hi).1, List.mem_cons_of_mem _ (g3 i o len hi).2.1, (g3 i o len hi).2.2⟩, g4, fun j c' c0 hc' hc0 => ?_⟩
        cases j with
        | zero =>
          simp only [List.getElem?_cons_zero, Option.some.injEq] at hc' hc0
          subst hc'; subst hc0
          exact .inr (.inr ⟨rfl, hs⟩)
        | succ j => exact g5 j c' c0 (by simpa using hc') (by simpa using hc0)
    cases c with
    | os o len =>
      simp only [giveC] at h
      cases hq : decide (o < p) with
      | true => rw [hq] at h; cases h
      | false =>
        rw [hq] at h
        have hpo := of_decide_eq_false hq
        simp only [cond_false] at h
        split at h
        · rename_i τ n f hob
          simp only [Option.bind_eq_some_iff, Option.some.injEq] at h
          obtain ⟨r, hr, rfl⟩ := h
          refine step r _ _ _ hr hx rfl (fun o' len' e => ?_) ⟨by simp, fun _ _ _ _ _ e => by cases e⟩ (.inl ⟨o, len, rfl, rfl, rfl⟩)
          cases e
          exact ⟨by omega, List.mem_cons_self .., .inl ⟨τ, n, f, obj_some hob (by simp), rfl⟩⟩
        · rename_i τ n q f hob
          simp only [Option.bind_eq_some_iff, Option.some.injEq] at h
          obtain ⟨r, hr, rfl⟩ := h
          simp only [Bool.and_eq_true, decide_eq_true_eq] at hx
          refine step r _ _ _ hr hx.2 rfl (fun o' len' e => ?_) ⟨by simp, fun _ _ _ _ _ e => by cases e; exact Nat.le_refl _⟩ (.inl ⟨o, len, rfl, rfl, rfl⟩)
          cases e
          exact ⟨by omega, List.mem_cons_self .., .inr ⟨τ, n, q, f, obj_some hob (by simp), hx.1, rfl⟩⟩
        · cases h
    | emp z τ =>
      simp only [giveC, Option.bind_eq_some_iff, Option.some.injEq] at h
      obtain ⟨r, hr, rfl⟩ := h
      refine step r _ _ _ hr hx rfl (fun o' len' e => by cases e) ?_ (.inr ⟨z, τ, rfl, rfl⟩)
      cases E.scl τ with
      | true => exact ⟨by simp, fun _ _ _ _ _ e => by cases e⟩
      | false => exact ⟨by simp, fun _ _ _ _ _ e => by cases e; exact Nat.le_refl _⟩
    | int kd n => exact same _ rfl h
    | bool b => exact same _ rfl h
    | str b => exact same _ rfl h
    | _ => simp [giveC, D.sc] at h
def Ob.isRD : Ob RT den → Bool
  | .row .. | .deep .. => true
  | _ => false
theorem give_rep {F0 : Was} {w0 : World} {F : Frz} {β : Bet} {s : St RT den} {a : Act} {w : World} (h : Rel E F0 w0 F β s a w) {p : Nat} (hpl : F0.len = p) (hrow : (s.objs.take p).all Ob.isRD = true) (hlent : ∀ b, F0.lent b → (∃ o m, F0.bet o = some (b, m)) ∨ ∃ o q m, F0.bet.h o q = some (b, m)) (hp : ∀ o x, F0.bet o = some x → o < p) (hph : ∀ o q x, F0.bet.h o q = some x → o < p) (hlen : p ≤ s.objs.length)
    {cs : List (D RT den)} {x : Bool × List (D RT den) × List (Ob RT den) × List (Option (Nat × Nat))} (hx : giveC E p s.objs cs p = some x) (hx1 : x.1 = true) (hn : nodupB x.2.2.2 = true) (hvs : ∀ c ∈ cs, ∃ v, VRep E F w β c v) :
    (∀ (j : Nat) c' c v, x.2.1[j]? = some c' → cs[j]? = some c → VRep E F w β c v → VRep E F w (giveB p F0.bet β x.2.2.2) c' v) ∧
    (∀ o ob, (s.objs.take p ++ x.2.2.1)[o]? = some ob → ∀ b m, (giveB p F0.bet β x.2.2.2) o = some (b, m) → ORep E F w (giveB p F0.bet β x.2.2.2) b m ob) ∧
    (∀ o b m, (giveB p F0.bet β x.2.2.2) o = some (b, m) → b < w.heap.size ∧ (∀ off, ¬ F b off) ∧ o < (s.objs.take p ++ x.2.2.1).length ∧ (w0.heap.size ≤ b ∨ F0.lent b)) ∧
    (∀ o o' b m m', (giveB p F0.bet β x.2.2.2) o = some (b, m) → (giveB p F0.bet β x.2.2.2) o' = some (b, m') → o = o') ∧
    Hid E (fun b => w0.heap.size ≤ b ∨ F0.lent b) F (giveB p F0.bet β x.2.2.2) (s.objs.take p ++ x.2.2.1) w := by
  obtain ⟨g1, g2, g3, g4, g5⟩ := giveC_get hx hx1
  have htake : (s.objs.take p).length = p := by simp; omega
  have hl : ∀ (o : Nat), o < p → (s.objs.take p ++ x.2.2.1)[o]? = s.objs[o]? := fun o ho => by
    rw [List.getElem?_append_left (by omega), List.getElem?_take, if_pos ho]
  have hr : ∀ (o : Nat), ¬ o < p → (s.objs.take p ++ x.2.2.1)[o]? = x.2.2.1[o - p]? := fun o ho => by
    rw [List.getElem?_append_right (by omega), htake]
  have plc : ∀ o, o < p → β o = F0.bet o ∧ β.h o = F0.bet.h o := fun o ho => ⟨(h.place o (by omega)).1, h.placeH o (by omega)⟩
  have lrow : ∀ (o : Nat), o < p → s.objs[o]? ≠ some .gone := fun o ho hg => by
    rw [List.all_eq_true] at hrow
    have := hrow .gone (List.mem_of_getElem? (i := o) (by rw [List.getElem?_take, if_pos ho]; exact hg))
    cases this
  have new : ∀ o b m, ¬ o < p → (giveB p F0.bet β x.2.2.2) o = some (b, m) → ∃ o1 len m1, x.2.2.2[o - p]? = some (some (o1, len)) ∧ β o1 = some (b, m1) ∧ m = (len, m1.2) ∧ p ≤ o1 ∧ s.objs[o1]? ≠ some .gone := by
    intro o b m ho hb
    obtain ⟨o1, len, m1, e1, e2, e3⟩ := giveB_r1 ho hb
    obtain ⟨e4, _, e5⟩ := g3 _ _ _ e1
    exact ⟨o1, len, m1, e1, e2, e3, e4, by rcases e5 with ⟨τ, n, f, e5, _⟩ | ⟨τ, n, q, f, e5, _⟩ <;> (rw [e5]; simp)⟩
  have newh : ∀ o q y, ¬ o < p → (giveB p F0.bet β x.2.2.2).h o q = some y → ∃ o1 len i t τ n q1 f, x.2.2.2[o - p]? = some (some (o1, len)) ∧ q = i :: t ∧ i < len ∧ β.h o1 (i :: t) = some y ∧ p ≤ o1 ∧ s.objs[o1]? = some (.deep false τ n q1 f) ∧ len ≤ q1 ∧ x.2.2.1[o - p]? = some (.deep false τ len len f) := by
    intro o q y ho hb
    obtain ⟨o1, len, i, t, e1, e2, e3, e4⟩ := giveB_h1 ho hb
    obtain ⟨e5, _, e6⟩ := g3 _ _ _ e1
    rcases e6 with ⟨τ, n, f, e6, _⟩ | ⟨τ, n, q1, f, e6, e7, e8⟩
    · rcases h.hid.bound _ _ _ e4 with h9 | ⟨_, _, _, _, _, _, _, _, _, h9, _⟩ <;> (rw [e6] at h9; cases h9)
    · exact ⟨o1, len, i, t, τ, n, q1, f, e1, e2, e3, e4, e5, e6, e7, e8⟩
  have oldr : ∀ o b m, o < p → (giveB p F0.bet β x.2.2.2) o = some (b, m) → β o = some (b, m) := fun o b m ho hb => by
    rw [giveB_r0 ho] at hb; rw [(plc o ho).1]; exact hb
  have oldh : ∀ o q y, o < p → (giveB p F0.bet β x.2.2.2).h o q = some y → β.h o q = some y := fun o q y ho hb => by
    rw [giveB_h0 ho] at hb; rw [(plc o ho).2]; exact hb
  have srcr : ∀ o b m, (giveB p F0.bet β x.2.2.2) o = some (b, m) → ∃ o1 m1, β o1 = some (b, m1) ∧ s.objs[o1]? ≠ some .gone ∧ ((o < p ∧ o1 = o) ∨ (¬ o < p ∧ p ≤ o1 ∧ ∃ len, x.2.2.2[o - p]? = some (some (o1, len)))) := by
    intro o b m hb
    by_cases ho : o < p
    · exact ⟨o, m, oldr o b m ho hb, lrow o ho, .inl ⟨ho, rfl⟩⟩
    · obtain ⟨o1, len, m1, e1, e2, e3, e4, e5⟩ := new o b m ho hb
      exact ⟨o1, m1, e2, e5, .inr ⟨ho, e4, len, e1⟩⟩
  have srch : ∀ o q y, (giveB p F0.bet β x.2.2.2).h o q = some y → ∃ o1, β.h o1 q = some y ∧ s.objs[o1]? ≠ some .gone ∧ ((o < p ∧ o1 = o) ∨ (¬ o < p ∧ p ≤ o1 ∧ ∃ len, x.2.2.2[o - p]? = some (some (o1, len)))) := by
    intro o q y hb
    by_cases ho : o < p
    · exact ⟨o, oldh o q y ho hb, lrow o ho, .inl ⟨ho, rfl⟩⟩
    · obtain ⟨o1, len, i, t, τ, n, q1, f, e1, e2, e3, e4, e5, e6, _⟩ := newh o q y ho hb
      exact ⟨o1, by rw [e2]; exact e4, by rw [e6]; simp, .inr ⟨ho, e5, len, e1⟩⟩
  have meet : ∀ o o' o1, ((o < p ∧ o1 = o) ∨ (¬ o < p ∧ p ≤ o1 ∧ ∃ len, x.2.2.2[o - p]? = some (some (o1, len)))) → ((o' < p ∧ o1 = o') ∨ (¬ o' < p ∧ p ≤ o1 ∧ ∃ len, x.2.2.2[o' - p]? = some (some (o1, len)))) → o = o' := by
    rintro o o' o1 (⟨h1, h2⟩ | ⟨h1, h2, len, h3⟩) (⟨h1', h2'⟩ | ⟨h1', h2', len', h3'⟩)
    · omega
    · omega
    · omega
    · have := nodupB_inj hn _ _ _ _ _ h3 h3'
      omega
  refine ⟨fun j c' c v hc' hc hv => ?_, fun o ob hob b m hb => ?_, fun o b m hb => ?_, fun o o' b m m' hb hb' => ?_, ?_⟩
  · rcases g5 j c' c hc' hc with ⟨o, len, i, rfl, rfl, hS⟩ | ⟨z, τ, i, rfl, rfl⟩ | ⟨rfl, hs⟩
    · cases hv with
      | os _ _ cap b m hb hcap hlm => exact .os _ len cap b (len, m.2) (giveB_new (by omega) (by rw [Nat.add_sub_cancel_left]; exact hS) hb) ⟨hcap.1, hcap.2⟩ (Nat.le_refl _)
      | os0 _ a' k3 => exact .os0 _ a' k3
    · cases hv with
      | emp _ _ a' k1 k2 k3 => exact .os0 _ a' k3
    · exact hv.sc hs
  · by_cases ho : o < p
    · rw [hl o ho] at hob
      have hβ := oldr o b m ho hb
      have := h.objs o ob hob b m hβ
      cases ob with
      | row l τ n f => exact this
      | deep => trivial
      | gone => trivial
      | box l cs' =>
        rw [List.all_eq_true] at hrow
        have := hrow _ (List.mem_of_getElem? (i := o) (by rw [List.getElem?_take, if_pos ho]; exact hob))
        cases this
    · rw [hr o ho] at hob
      obtain ⟨o1, len, m1, e1, e2, e3, e4, e5⟩ := new o b m ho hb
      subst e3
      obtain ⟨_, em, e6⟩ := g3 _ _ _ e1
      rcases e6 with ⟨τ, n, f, e6, e7⟩ | ⟨τ, n, q, f, e6, e7, e8⟩
      · rw [e7] at hob; cases hob
        obtain ⟨hm, ⟨hm1, hm2⟩, cur, e, hh, hs, hr'⟩ := h.objs o1 _ e6 b m1 e2
        have hle : len ≤ n := by
          obtain ⟨v, hv⟩ := hvs _ em
          cases hv with
          | os _ _ cap b' m' hb' hcap hlm => rw [e2] at hb'; cases hb'; omega
          | os0 => exact Nat.zero_le _
        exact ⟨rfl, ⟨by dsimp only; omega, hm2⟩, cur, e, hh, hs, fun i j c hi hc => hr' i j c (by omega) hc⟩
      · rw [e8] at hob; cases hob; trivial
  · obtain ⟨o1, m1, e1, e2, e3⟩ := srcr o b m hb
    obtain ⟨n1, n2, n3, n4⟩ := h.names o1 b m1 e1
    refine ⟨n2, n3, ?_, n1⟩
    rw [List.length_append, htake]
    rcases e3 with ⟨e3, _⟩ | ⟨e3, _, len, e4⟩
    · omega
    · have := (List.getElem?_eq_some_iff.1 e4).1
      omega
  · obtain ⟨o1, m1, e1, e2, e3⟩ := srcr o b m hb
    obtain ⟨o2, m2, f1, f2, f3⟩ := srcr o' b m' hb'
    have := h.inj _ _ _ _ _ e1 f1
    subst this
    exact meet o o' o1 e3 f3
  · refine ⟨fun o q b m hb => ?_, fun o q b m hb => ?_, fun o q b m o' m' hb hb' => ?_, fun o q o' q' b m m' hb hb' _ _ => ?_, fun o q y hb => ?_, fun o l τ n q f ho b m hb => ?_⟩
    · obtain ⟨o1, e1, _⟩ := srch o q _ hb
      exact h.hid.ok _ _ _ _ e1
    · obtain ⟨o1, e1, e2, e3⟩ := srch o q _ hb
      obtain ⟨n1, n2, n3⟩ := h.hid.names _ _ _ _ e1
      refine ⟨n1, n2, ?_⟩
      rw [List.length_append, htake]
      rcases e3 with ⟨e3, _⟩ | ⟨e3, _, len, e4⟩
      · omega
      · have := (List.getElem?_eq_some_iff.1 e4).1
        omega
    · obtain ⟨o1, e1, e2, e3⟩ := srch o q _ hb
      obtain ⟨o2, m2, f1, f2, f3⟩ := srcr o' b m' hb'
      exact absurd (h.hid.real _ _ _ _ _ _ e1 f1) f2
    · obtain ⟨o1, e1, e2, e3⟩ := srch o q _ hb
      obtain ⟨o2, f1, f2, f3⟩ := srch o' q' _ hb'
      obtain ⟨d1, d2⟩ := h.hid.inj _ _ _ _ _ _ _ e1 f1 e2 f2
      subst d1
      exact ⟨meet o o' o1 e3 f3, d2⟩
    · by_cases ho : o < p
      · have hb2 := oldh o q y ho hb
        rw [hl o ho]
        rcases h.hid.bound o q y hb2 with h9 | ⟨i, q', l, τ, n, q1, f, e1, e2, e3, z, e4⟩
        · exact absurd h9 (lrow o ho)
        · exact .inr ⟨i, q', l, τ, n, q1, f, e1, e2, e3, z, by rw [giveB_r0 ho, ← (plc o ho).1]; exact e4⟩
      · obtain ⟨o1, len, i, t, τ, n, q1, f, e1, e2, e3, e4, e5, e6, e7, e8⟩ := newh o q y ho hb
        rw [hr o ho]
        rcases h.hid.bound _ _ _ e4 with h9 | ⟨_, _, _, _, _, _, _, _, _, _, z, e9⟩
        · rw [e6] at h9; cases h9
        · exact .inr ⟨i, t, false, τ, len, len, f, e2, e3, e8, _, giveB_new (by omega) e1 e9⟩
    · by_cases ho2 : o < p
      · rw [hl o ho2] at ho
        exact (h.hid.reps o l τ n q f ho b m (oldr o b m ho2 hb)).mono (fun _ _ h => h) (Keeps.refl _ _) rfl (fun q => by rw [giveB_h0 ho2, ← (plc o ho2).2]) (fun _ _ _ _ => rfl)
      · rw [hr o ho2] at ho
        obtain ⟨o1, len, m1, e1, e2, e3, e4, e5⟩ := new o b m ho2 hb
        subst e3
        obtain ⟨_, _, e6⟩ := g3 _ _ _ e1
        rcases e6 with ⟨τ', n', f', e6, e7⟩ | ⟨τ', n', q', f', e6, e7, e8⟩
        · rw [e7] at ho; cases ho
        · rw [e8] at ho; cases ho
          obtain ⟨k1, ⟨k2, k3⟩, k0, cur, e, k4, k5, k6⟩ := h.hid.reps o1 _ _ _ _ _ e6 b m1 e2
          refine ⟨rfl, ⟨by dsimp only; omega, k3⟩, Nat.le_refl _, cur, e, k4, k5, fun i j c hi hc => ⟨fun _ => ((k6 i j c (by omega) hc).1 (by omega)).move (fun r => ?_) (fun _ _ _ _ => rfl), fun hp => absurd hp (by omega)⟩⟩
          exact giveB_hn (by omega) e1 hi
section
variable (E : Env RT den) (pc : Pc RT den) {ρ : Type}
def finishU (fn : Func) (p : Nat) (out : D RT den → List (Ob RT den) → Option ρ) (e : Ex) (s : St RT den) : Option ρ :=
  match e with
  | .exit _ => none
  | _ => match fn.results.toList with
    | [r] => (result E s r).bind fun d => bif decide (p ≤ s.objs.length) && (s.objs.take p).all Ob.isRD then (give E p s.objs d).bind fun x => bif x.1 then out x.2.1 x.2.2 else none else none
    | _ => none
def evFunU (msk : Nat → List Nat) (lp : Lp RT den ρ) (out : D RT den → List (Ob RT den) → Option ρ) (f : Nat) (args : List (D RT den)) (ins : List (Ob RT den)) : Option ρ :=
  match E.fn f with
  | some fn =>
    match fn.body with
    | some c => evCode E pc msk lp 0 c ⟨args ++ List.replicate (fn.ntmps - args.length) .undef, ins⟩ (finishU E fn ins.length out)
    | none => none
  | none => none
end
theorem funU_good (hE : Ok E P) {pc : Pc RT den} (hpc : PrOk E P pc.run) {d : Nat} {msk : Nat → List Nat} {ρ : Type} {lp : Lp RT den ρ} {out : D RT den → List (Ob RT den) → Option ρ} {y : ρ} {f : Nat} {xs : List (D RT den)} {ins : List (Ob RT den)}
    {r : D RT den} {outs : List (Ob RT den)} {fn : Func} {c : Code} (hf : E.fn f = some fn) (hb : fn.body = some c)
    (hname : (fn.name == "runtime.NumGoroutine") = false) (hlp : LpOk E pc d msk lp (loops 0 c)) (hins : ins.all Ob.isLent = true) (hlen0 : ins.length ≤ outs.length) (hfull : ∀ (k : Nat) l τ n p g, ins.length ≤ k → outs[k]? = some (Ob.deep l τ n p g) → n ≤ p) (hout : ∀ d os, out d os = some y → d = r ∧ os = outs) (hv : evFunU E pc msk lp out f xs ins = some y) : GoodD E P f xs ins r outs := by
  refine ⟨⟨fn, hE.fn f fn hf, by simp [hb], hname⟩, hlen0, hfull, fun F w β vs hF hlen hxs hobj hnames hinj hhid => ?_⟩
  simp only [evFunU, hf, hb] at hv
  have hhlt : ∀ {o q b m}, β.h o q = some (b, m) → o < ins.length := fun hx => (hhid.names _ _ _ _ hx).2.2
  refine calls_of_wp (hE.fn f fn hf) hb ?_
  have h0 : Rel E ⟨F, β.has, β, ins.length, fun _ => False, fun b hb => by
      rcases hb with ⟨o, m, h⟩ | ⟨o, q, m, h⟩
      · exact .inl ⟨o, m, (hnames o b m h).2.2, h⟩
      · exact .inr (.inl ⟨o, q, m, hhlt h, h⟩)⟩ w F β ⟨xs ++ List.replicate (fn.ntmps - xs.length) .undef, ins⟩ { tmps := vs ++ Array.replicate (fn.ntmps - vs.size) Go.undef, defers := [] } w := by
    refine ⟨rfl, by simp; omega, fun i d hd => ?_, hobj, fun o b m hb => ⟨.inr (.inl ⟨o, m, hb⟩), (hnames o b m hb).1, (hnames o b m hb).2.1, (hnames o b m hb).2.2⟩, hinj, Keep.refl _ _ _, hF, fun _ _ h => h, fun _ _ h => .inl h, fun o hlt => ⟨rfl, ?_⟩, fun _ _ => rfl, ⟨fun o q b m hx => .inr (hhid.ok o q b m hx), hhid.names, hhid.real, hhid.inj, hhid.bound, hhid.reps⟩⟩
    · dsimp only at hd ⊢
      rw [List.getElem?_append] at hd
      split at hd
      · rename_i hlt
        have h1 : i < vs.size := by omega
        have h2 : i < vs.size + (fn.ntmps - vs.size) := by omega
        have := hxs i d hd
        have e : (vs ++ Array.replicate (fn.ntmps - vs.size) Go.undef).getD i Go.undef = vs.getD i Go.undef := by simp [Array.getD, h1, h2]
        rw [e]; exact this
      · rename_i hge
        rw [List.getElem?_replicate] at hd
        split at hd
        · rename_i hlt
          simp at hd; subst hd
          have h1 : ¬ i < vs.size := by omega
          have h2 : i < vs.size + (fn.ntmps - vs.size) := by omega
          have e : (vs ++ Array.replicate (fn.ntmps - vs.size) Go.undef).getD i Go.undef = Go.undef := by simp [Array.getD, h1, h2, Array.getElem_append]
          rw [e]; exact .undef
        · simp at hd
    · have hlt : o < ins.length := hlt
      rw [List.all_eq_true] at hins
      exact ⟨ins[o], List.getElem?_eq_getElem hlt, hins _ (List.getElem_mem hlt)⟩
  refine code_wp hE hpc c 0 hlp _ _ F β _ _ w h0 hv (fun e F' β' s' a' w' hr hk => ?_)
  have fin : (match fn.results.toList with
      | [r] => (result E s' r).bind fun d => bif decide (ins.length ≤ s'.objs.length) && (s'.objs.take ins.length).all Ob.isRD then (give E ins.length s'.objs d).bind fun x => bif x.1 then out x.2.1 x.2.2 else none else none
      | _ => none) = some y → a'.defers = [] ∧ ∃ v, (Go.results fn a'.tmps).run P w' = .ok v w' ∧
      ∃ v' F'' β'', Ending.returned v = .returned v' ∧ Keep β.has w.heap.size w w' ∧ (∀ b o, F b o → F'' b o) ∧ (∀ b o, F'' b o → F b o ∨ w.heap.size ≤ b) ∧ (∀ b o, F'' b o → b < w'.heap.size) ∧
      VRep E F'' w' β'' r v' ∧ (∀ o ob, outs[o]? = some ob → ∀ b m, β'' o = some (b, m) → ORep E F'' w' β'' b m ob) ∧ (∀ o, o < ins.length → β'' o = β o ∧ β''.h o = β.h o) ∧
      (∀ o b m, β'' o = some (b, m) → b < w'.heap.size ∧ (∀ off, ¬ F'' b off) ∧ o < outs.length ∧ (w.heap.size ≤ b ∨ β.has b)) ∧ (∀ o o' b m m', β'' o = some (b, m) → β'' o' = some (b, m') → o = o') ∧ Hid E (fun b => w.heap.size ≤ b ∨ β.has b) F'' β'' outs w' := by
    intro hk
    split at hk
    · rename_i r0 hr0
      simp only [Option.bind_eq_some_iff] at hk
      obtain ⟨d, hd, hk⟩ := hk
      cases hpl : decide (ins.length ≤ s'.objs.length) && (s'.objs.take ins.length).all Ob.isRD with
      | false => rw [hpl] at hk; cases hk
      | true =>
        rw [hpl] at hk
        simp only [Bool.and_eq_true] at hpl
        simp only [cond_true, Option.bind_eq_some_iff] at hk
        obtain ⟨x, hx, hk⟩ := hk
        cases hx1 : x.1 with
        | false => rw [hx1] at hk; cases hk
        | true =>
        rw [hx1] at hk
        obtain ⟨h1, h2⟩ := hout _ _ hk
        obtain ⟨v, v1, v2⟩ := readVar_rep hE hr hd
        have done : ∀ β'', VRep E F' w' β'' r v → (∀ o ob, outs[o]? = some ob → ∀ b m, β'' o = some (b, m) → ORep E F' w' β'' b m ob) → (∀ o, o < ins.length → β'' o = β o ∧ β''.h o = β.h o) →
            (∀ o b m, β'' o = some (b, m) → b < w'.heap.size ∧ (∀ off, ¬ F' b off) ∧ o < outs.length ∧ (w.heap.size ≤ b ∨ β.has b)) → (∀ o o' b m m', β'' o = some (b, m) → β'' o' = some (b, m') → o = o') → Hid E (fun b => w.heap.size ≤ b ∨ β.has b) F' β'' outs w' → _ := fun β'' a1 a2 a3 a4 a5 a6 =>
          (⟨hr.defers, v, by
            have := run_results (P := P) (fn := fn) (tmps := a'.tmps) (w := w') (vs := [v]) (by rw [hr0]; simp [List.mapM_cons, v1])
            simpa [retVal] using this, v, F', β'', rfl, hr.below, hr.frz1, fun b o hf => (hr.frz2 b o hf).elim .inl (fun h => h.elim .inr (fun h => h.elim)), hr.frz, a1, a2, a3, a4, a5, a6⟩ : a'.defers = [] ∧ ∃ v, (Go.results fn a'.tmps).run P w' = .ok v w' ∧
      ∃ v' F'' β'', Ending.returned v = .returned v' ∧ Keep β.has w.heap.size w w' ∧ (∀ b o, F b o → F'' b o) ∧ (∀ b o, F'' b o → F b o ∨ w.heap.size ≤ b) ∧ (∀ b o, F'' b o → b < w'.heap.size) ∧
      VRep E F'' w' β'' r v' ∧ (∀ o ob, outs[o]? = some ob → ∀ b m, β'' o = some (b, m) → ORep E F'' w' β'' b m ob) ∧ (∀ o, o < ins.length → β'' o = β o ∧ β''.h o = β.h o) ∧
      (∀ o b m, β'' o = some (b, m) → b < w'.heap.size ∧ (∀ off, ¬ F'' b off) ∧ o < outs.length ∧ (w.heap.size ≤ b ∨ β.has b)) ∧ (∀ o o' b m m', β'' o = some (b, m) → β'' o' = some (b, m') → o = o') ∧ Hid E (fun b => w.heap.size ≤ b ∨ β.has b) F'' β'' outs w')
        have keep : ∀ S o, o < ins.length → (giveB ins.length β β' S) o = β o ∧ (giveB ins.length β β' S).h o = β.h o := fun S o ho => ⟨giveB_r0 ho, by funext q; exact giveB_h0 ho q⟩
        have one : ∀ (d : D RT den), VRep E F' w' β' d v → ((giveC E ins.length s'.objs [d] ins.length).bind fun x => bif nodupB x.2.2.2 then (match x.2.1 with | [d'] => some (x.1, d', s'.objs.take ins.length ++ x.2.2.1) | _ => none) else none) = some x → ∃ β'', VRep E F' w' β'' r v ∧ (∀ o ob, outs[o]? = some ob → ∀ b m, β'' o = some (b, m) → ORep E F' w' β'' b m ob) ∧ (∀ o, o < ins.length → β'' o = β o ∧ β''.h o = β.h o) ∧
            (∀ o b m, β'' o = some (b, m) → b < w'.heap.size ∧ (∀ off, ¬ F' b off) ∧ o < outs.length ∧ (w.heap.size ≤ b ∨ β.has b)) ∧ (∀ o o' b m m', β'' o = some (b, m) → β'' o' = some (b, m') → o = o') ∧ Hid E (fun b => w.heap.size ≤ b ∨ β.has b) F' β'' outs w' := fun d v2 hx => by
          simp only [Option.bind_eq_some_iff] at hx
          obtain ⟨z, hz, hx⟩ := hx
          cases hn : nodupB z.2.2.2 with
          | false => rw [hn] at hx; cases hx
          | true =>
          rw [hn] at hx
          simp only [cond_true] at hx
          split at hx
          · rename_i d' hd'
            have hx := Option.some.inj hx; subst hx
            obtain ⟨q1, q2, q3, q4, q5⟩ := give_rep hr rfl hpl.2 (fun b hb => hb) (fun o x hx => (hnames o x.1 x.2 hx).2.2) (fun o q x hx => hhlt (b := x.1) (m := x.2) hx) (of_decide_eq_true hpl.1) hz hx1 hn (fun c hc => by simp at hc; subst hc; exact ⟨v, v2⟩)
            subst h1; subst h2
            exact ⟨_, q1 0 d' d v (by rw [hd']; rfl) rfl v2, q2, keep _, q3, q4, q5⟩
          · cases hx
        by_cases hag : ∃ cs, d = .agg cs
        · obtain ⟨cs, rfl⟩ := hag
          simp only [give, Option.bind_eq_some_iff] at hx
          obtain ⟨z, hz, hx⟩ := hx
          cases hn : nodupB z.2.2.2 with
          | false => rw [hn] at hx; cases hx
          | true =>
          rw [hn] at hx
          simp only [cond_true] at hx
          have hx := Option.some.inj hx; subst hx
          cases v2 with
          | agg _ us k1 k2 =>
            obtain ⟨q1, q2, q3, q4, q5⟩ := give_rep hr rfl hpl.2 (fun b hb => hb) (fun o x hx => (hnames o x.1 x.2 hx).2.2) (fun o q x hx => hhlt (b := x.1) (m := x.2) hx) (of_decide_eq_true hpl.1) hz hx1 hn (fun c hc => by
              obtain ⟨j, hj⟩ := List.mem_iff_getElem?.1 hc
              exact ⟨_, k2 j c hj⟩)
            subst h1; subst h2
            have hlz := (giveC_get hz hx1).1
            refine done _ (.agg _ us (by rw [hlz]; exact k1) (fun j c' hc' => ?_)) q2 (keep _) q3 q4 q5
            have hjl : j < cs.length := by rw [← hlz]; exact (List.getElem?_eq_some_iff.1 hc').1
            obtain ⟨c, hc⟩ : ∃ c, cs[j]? = some c := ⟨_, List.getElem?_eq_getElem hjl⟩
            exact q1 j c' c _ hc' hc (k2 j c hc)
        · obtain ⟨β'', q0, q1, q2, q3, q4, q5⟩ := one d v2 (by cases d <;> first | exact hx | (exact absurd ⟨_, rfl⟩ hag))
          exact done β'' q0 q1 q2 q3 q4 q5
    · cases hk
  cases e with
  | normal => exact fin hk
  | ret => exact fin hk
  | exit i => simp [finishU] at hk
def Fulls : List (Ob RT den) → Prop
  | [] => True
  | .deep _ _ n p _ :: l => n ≤ p ∧ Fulls l
  | _ :: l => Fulls l
theorem Fulls.get : ∀ {outs : List (Ob RT den)} (m : Nat), Fulls (outs.drop m) → ∀ (k : Nat) l τ n p g, m ≤ k → outs[k]? = some (Ob.deep l τ n p g) → n ≤ p
  | [], m, _, k, l, τ, n, p, g, _, h => by simp at h
  | ob :: outs, 0, hf, 0, l, τ, n, p, g, _, h => by
    simp only [List.getElem?_cons_zero, Option.some.injEq] at h
    subst h
    exact hf.1
  | ob :: outs, 0, hf, k + 1, l, τ, n, p, g, _, h => by
    have hf' : Fulls outs := by
      cases ob with
      | deep => exact hf.2
      | _ => exact hf
    exact Fulls.get (outs := outs) 0 hf' k l τ n p g (Nat.zero_le _) (by simpa using h)
  | ob :: outs, m + 1, hf, 0, l, τ, n, p, g, hk, h => absurd hk (by omega)
  | ob :: outs, m + 1, hf, k + 1, l, τ, n, p, g, hk, h => Fulls.get (outs := outs) m hf k l τ n p g (by omega) (by simpa using h)
end Go.Proofs.Ytcmfekgdlaffkaa.Vm
