
/- The value machine: rows of own rows: what they take in, and how they turn. Conditions: none. -/
import Derived.Test.YtjdgfkmiaikegaaVmI
namespace Go.Proofs.Ytjdgfkmiaikegaa.Vm
open Go Go.RowKit
set_option linter.unusedVariables false
set_option linter.unusedSimpArgs false
variable {RT : Type} {den : RT → Type} {E : Env RT den} {P : Program}
def Absorbed (E : Env RT den) (o : Nat) (os : List (Ob RT den)) (cs told : List (D RT den)) (os' : List (Ob RT den)) : Prop :=
  told.length = cs.length ∧ os'.length = os.length ∧
  (∀ (k : Nat) c, cs[k]? = some c → (∃ o2 len, c = .os o2 len ∧ o2 ≠ o ∧ os'[o2]? = some .gone ∧ ((∃ τ n f, os[o2]? = some (.row false τ n f) ∧ E.scl τ = true ∧ told[k]? = some (.rs none τ len f)) ∨ ∃ τ n p f, os[o2]? = some (.deep false τ n p f) ∧ len ≤ p ∧ told[k]? = some (.rs none τ len f))) ∨
   (∃ z τ, c = .emp z τ ∧ told[k]? = some (.rs (some z) τ 0 fun _ => E.dflt τ)) ∨ (c.sc = true ∧ told[k]? = some c)) ∧
  (∀ (k k' o2 len len' : Nat), cs[k]? = some (.os o2 len) → cs[k']? = some (.os o2 len') → k = k') ∧
  (∀ i, (∀ (k o2 len : Nat), cs[k]? = some (.os o2 len) → o2 ≠ i) → os'[i]? = os[i]?)
theorem absorb_spec {o : Nat} : ∀ {cs : List (D RT den)} {os : List (Ob RT den)} {told : List (D RT den)} {os' : List (Ob RT den)}, absorb E o os cs = some (true, told, os') → Absorbed E o os cs told os'
 | [], os, told, os', h => by
  simp only [absorb, Option.some.injEq, Prod.mk.injEq, true_and] at h
  obtain ⟨rfl, rfl⟩ := h
  simp [Absorbed]
 | c :: cs, os, told, os', h => by
  have key : ∀ (c' : D RT den), (∀ o2 len, c ≠ .os o2 len) → ((absorb E o os cs).bind fun r => some (r.1, c' :: r.2.1, r.2.2)) = some (true, told, os') →
    ((∃ z τ, c = .emp z τ ∧ c' = .rs (some z) τ 0 fun _ => E.dflt τ) ∨ (c.sc = true ∧ c' = c)) → Absorbed E o os (c :: cs) told os' := by
   intro c' hno h hc'
   simp only [Option.bind_eq_some_iff, Option.some.injEq, Prod.mk.injEq] at h
   obtain ⟨⟨ok, told', os1⟩, hr, rfl, rfl, rfl⟩ := h
   obtain ⟨a1, a2, a3, a4, a5⟩ := absorb_spec hr
   refine ⟨by simp [a1], a2, fun k c0 hk => ?_, fun k k' o2 len len' hk hk' => ?_, fun i hi => a5 i (fun k o2 len hk => hi (k + 1) o2 len (by simpa using hk))⟩
   ·cases k with
    | zero =>
     simp only [List.getElem?_cons_zero, Option.some.injEq] at hk
     subst hk
     rcases hc' with ⟨z, τ, e1, e2⟩ | ⟨e1, e2⟩
     ·exact .inr (.inl ⟨z, τ, e1, by simp [e2]⟩)
     ·exact .inr (.inr ⟨e1, by simp [e2]⟩)
    | succ k => simpa using a3 k c0 (by simpa using hk)
   ·cases k with
    | zero => simp only [List.getElem?_cons_zero, Option.some.injEq] at hk; exact absurd hk (hno _ _)
    | succ k =>
     cases k' with
     | zero => simp only [List.getElem?_cons_zero, Option.some.injEq] at hk'; exact absurd hk' (hno _ _)
     | succ k' => rw [a4 k k' o2 len len' (by simpa using hk) (by simpa using hk')]
  have row : ∀ (o2 len : Nat) (τ : RT) (f : Nat → den τ) (ok : Bool) (ob : Ob RT den), c = .os o2 len → o2 ≠ o → obj os o2 = ob → ob ≠ .gone → ((absorb E o (os.set o2 .gone) cs).bind fun r => some (ok && r.1, .rs none τ len f :: r.2.1, r.2.2)) = some (true, told, os') →
    ((∃ n, ob = .row false τ n f ∧ E.scl τ = true) ∨ ∃ n p, ob = .deep false τ n p f ∧ (ok = true → len ≤ p)) → Absorbed E o os (c :: cs) told os' := by
   intro o2 len τ f ok ob hc hne hob hg h hor
   simp only [Option.bind_eq_some_iff, Option.some.injEq, Prod.mk.injEq, Bool.and_eq_true] at h
   obtain ⟨⟨ok', told', os1⟩, hr, ⟨hok, rfl⟩, rfl, rfl⟩ := h
   have hoo := obj_some hob hg
   have hlt : o2 < os.length := (List.getElem?_eq_some_iff.1 hoo).1
   have hset : (os.set o2 .gone)[o2]? = some .gone := by simp [hlt]
   obtain ⟨a1, a2, a3, a4, a5⟩ := absorb_spec hr
   have away : ∀ (k o3 len' : Nat), cs[k]? = some (.os o3 len') → o3 ≠ o2 := by
    intro k o3 len' hk e
    subst e
    rcases a3 k _ hk with ⟨o4, len4, e4, _, _, ⟨τ4, n4, f4, e5, _⟩ | ⟨τ4, n4, p4, f4, e5, _⟩⟩ | ⟨z, τ4, e4, _⟩ | ⟨e4, _⟩
    ·cases e4; rw [hset] at e5; cases e5
    ·cases e4; rw [hset] at e5; cases e5
    ·cases e4
    ·cases e4
   have hgone : os1[o2]? = some .gone := by rw [a5 o2 (fun k o3 len' hk => away k o3 len' hk)]; exact hset
   refine ⟨by simp [a1], by simpa using a2, fun k c0 hk => ?_, fun k k' o3 len3 len4 hk hk' => ?_, fun i hi => ?_⟩
   ·cases k with
    | zero =>
     simp only [List.getElem?_cons_zero, Option.some.injEq] at hk
     subst hk
     refine .inl ⟨o2, len, hc, hne, hgone, ?_⟩
     rcases hor with ⟨n, e1, e2⟩ | ⟨n, p, e1, e2⟩
     ·exact .inl ⟨τ, n, f, by rw [hoo, e1], e2, by simp⟩
     ·exact .inr ⟨τ, n, p, f, by rw [hoo, e1], e2 hok, by simp⟩
    | succ k =>
     have hk : cs[k]? = some c0 := by simpa using hk
     rcases a3 k c0 hk with ⟨o3, len3, e1, e2, e3, e4⟩ | h9 | h9
     ·have hne3 : o3 ≠ o2 := away k o3 len3 (by rw [hk, e1])
      refine .inl ⟨o3, len3, e1, e2, e3, ?_⟩
      rw [List.getElem?_set_ne (Ne.symm hne3)] at e4
      simpa using e4
     ·exact .inr (.inl (by simpa using h9))
     ·exact .inr (.inr (by simpa using h9))
   ·cases k with
    | zero =>
     simp only [List.getElem?_cons_zero, Option.some.injEq] at hk
     rw [hc] at hk; cases hk
     cases k' with
     | zero => rfl
     | succ k' => exact absurd rfl (away k' _ _ (by simpa using hk'))
    | succ k =>
     cases k' with
     | zero =>
      simp only [List.getElem?_cons_zero, Option.some.injEq] at hk'
      rw [hc] at hk'; cases hk'
      exact absurd rfl (away k _ _ (by simpa using hk))
     | succ k' => rw [a4 k k' o3 len3 len4 (by simpa using hk) (by simpa using hk')]
   ·have h0 : o2 ≠ i := hi 0 o2 len (by rw [hc]; rfl)
    rw [a5 i (fun k o3 len' hk => hi (k + 1) o3 len' (by simpa using hk)), List.getElem?_set_ne h0]
  have sc : ∀ (c' : D RT den), c' = c → (∀ o2 len, c ≠ .os o2 len) → (bif c'.sc then (absorb E o os cs).bind fun r => some (r.1, c' :: r.2.1, r.2.2) else none) = some (true, told, os') → Absorbed E o os (c :: cs) told os' := fun c' e hno hh => by
   subst e
   cases hs : c'.sc with
   | false => rw [hs] at hh; cases hh
   | true =>
    rw [hs] at hh
    exact key c' hno hh (.inr ⟨hs, rfl⟩)
  cases c with
  | os o2 len =>
   simp only [absorb] at h
   cases hq : Nat.beq o2 o with
   | true => rw [hq] at h; cases h
   | false =>
    rw [hq] at h
    have hne : o2 ≠ o := fun e => by subst e; rw [show Nat.beq o2 o2 = true from Nat.beq_refl o2] at hq; cases hq
    simp only [cond_false] at h
    split at h
    ·rename_i τ n f hob
     cases hsc : E.scl τ with
     | false => rw [hsc] at h; cases h
     | true =>
      rw [hsc] at h
      exact row o2 len τ f true _ rfl hne hob (by simp) (by simpa using h) (.inl ⟨n, rfl, hsc⟩)
    ·rename_i τ n p f hob
     exact row o2 len τ f (decide (len ≤ p)) _ rfl hne hob (by simp) h (.inr ⟨n, p, rfl, of_decide_eq_true⟩)
    ·cases h
  | emp z τ =>
   simp only [absorb] at h
   exact key _ (fun _ _ e => by cases e) h (.inl ⟨z, τ, rfl, rfl⟩)
  | int k n => exact sc _ rfl (fun _ _ e => by cases e) h
  | bool b => exact sc _ rfl (fun _ _ e => by cases e) h
  | str b => exact sc _ rfl (fun _ _ e => by cases e) h
  | _ => simp [absorb, D.sc] at h
def srcOf (cs : List (D RT den)) (j : Nat) : Option (Nat × Nat) :=
 match cs[j]? with
 | some (.os o len) => some (o, len)
 | _ => none
theorem srcOf_some {cs : List (D RT den)} {j o len : Nat} (h : srcOf cs j = some (o, len)) : cs[j]? = some (.os o len) := by
 unfold srcOf at h
 split at h
 ·rename_i hc
  simp only [Option.some.injEq, Prod.mk.injEq] at h
  obtain ⟨rfl, rfl⟩ := h
  exact hc
 ·cases h
def Bet.takes (β : Bet) (o i off : Nat) (sr : Nat → Option (Nat × Nat)) (o' : Nat) (q : List Nat) : Option (Nat × (Nat × Nat)) :=
 if o' = o then (match q with
  | [] => none
  | i' :: r => if i' < i then β.h o (i' :: r) else if i' = i then (match r with
   | [] => none
   | j :: q' => if off ≤ j then (sr (j - off)).bind fun x => (match q' with
    | [] => (β x.1).map fun y => (y.1, (x.2, y.2.2))
    | a :: l => if a < x.2 then β.h x.1 (a :: l) else none) else none) else none)
 else β.h o' q
theorem takes_ne {β : Bet} {o i off : Nat} {sr : Nat → Option (Nat × Nat)} {o' : Nat} {q : List Nat} (h : o' ≠ o) : β.takes o i off sr o' q = β.h o' q := by
 unfold Bet.takes; rw [if_neg h]
theorem takes_old {β : Bet} {o i off : Nat} {sr : Nat → Option (Nat × Nat)} {i' : Nat} {q : List Nat} (h : i' < i) : β.takes o i off sr o (i' :: q) = β.h o (i' :: q) := by
 unfold Bet.takes; rw [if_pos rfl]; dsimp only; rw [if_pos h]
theorem takes_new {β : Bet} {o i off : Nat} {sr : Nat → Option (Nat × Nat)} {k o2 len : Nat} (h : sr k = some (o2, len)) (q : List Nat) : β.takes o i off sr o (i :: (off + k) :: q) = match q with | [] => (β o2).map fun y => (y.1, (len, y.2.2)) | a :: l => if a < len then β.h o2 (a :: l) else none := by
 unfold Bet.takes
 rw [if_pos rfl]
 dsimp only
 rw [if_neg (Nat.lt_irrefl _), if_pos rfl]
 rw [if_pos (Nat.le_add_right _ _), Nat.add_sub_cancel_left]
 rw [h]; rfl
theorem takes_none {β : Bet} {o i off : Nat} {sr : Nat → Option (Nat × Nat)} {k : Nat} (h : sr k = none) (q : List Nat) : β.takes o i off sr o (i :: (off + k) :: q) = none := by
 unfold Bet.takes
 rw [if_pos rfl]
 dsimp only
 rw [if_neg (Nat.lt_irrefl _), if_pos rfl]
 rw [if_pos (Nat.le_add_right _ _), Nat.add_sub_cancel_left]
 rw [h]; rfl
def Srcs (β : Bet) (cs : List (D RT den)) (u : Nat → Value) (sr : Nat → Option (Nat × Nat)) : Prop :=
 (∀ k o len, sr k = some (o, len) → cs[k]? = some (.os o len) ∧ ∃ b m cap, β o = some (b, m) ∧ u k = .slice (some (at' b 0)) len cap ∧ (len ≤ cap ∧ cap = m.2) ∧ len ≤ m.1) ∧
 ∀ k o len, cs[k]? = some (.os o len) → sr k = none → ∃ a, u k = .slice a 0 0 ∧ len = 0 ∧ ∀ q, a = some q → q.spot = none
open Classical in
theorem srcs_of {F : Frz} {w : World} {β : Bet} {cs : List (D RT den)} {u : Nat → Value} (h : ∀ (k : Nat) c, cs[k]? = some c → VRep E F w β c (u k)) : ∃ sr, Srcs β cs u sr := by
 refine ⟨fun k => if ∃ o len b m cap, cs[k]? = some (.os o len) ∧ β o = some (b, m) ∧ u k = .slice (some (at' b 0)) len cap ∧ (len ≤ cap ∧ cap = m.2) ∧ len ≤ m.1 then srcOf cs k else none, fun k o len hk => ?_, fun k o len hc hk => ?_⟩ <;> dsimp only at hk
 ·split at hk
  ·rename_i hex
   have hc := srcOf_some hk
   obtain ⟨o', len', b, m, cap, e1, e2⟩ := hex
   rw [hc] at e1; cases e1
   exact ⟨hc, b, m, cap, e2⟩
  ·cases hk
 ·split at hk
  ·unfold srcOf at hk; rw [hc] at hk; cases hk
  ·rename_i hno
   have hv := h k _ hc
   generalize hu : u k = v at hv
   cases hv with
   | os _ _ cap b m k1 k2 k3 => exact absurd ⟨o, len, b, m, cap, hc, k1, hu, k2, k3⟩ hno
   | os0 _ a k3 => exact ⟨a, rfl, rfl, k3⟩
theorem takes_cases {β : Bet} {o i off : Nat} {sr : Nat → Option (Nat × Nat)} {o' : Nat} {q : List Nat} {x : Nat × (Nat × Nat)} (h : β.takes o i off sr o' q = some x) :
  (o' ≠ o ∧ β.h o' q = some x) ∨ (o' = o ∧ ∃ i' r, q = i' :: r ∧ i' < i ∧ β.h o q = some x) ∨
  (o' = o ∧ ∃ k o2 len q', q = i :: (off + k) :: q' ∧ sr k = some (o2, len) ∧ ((q' = [] ∧ ∃ m, β o2 = some (x.1, m)) ∨ (q' ≠ [] ∧ β.h o2 q' = some x))) := by
 unfold Bet.takes at h
 by_cases ho : o' = o
 ·rw [if_pos ho] at h
  split at h
  ·cases h
  ·rename_i i' r
   by_cases hi : i' < i
   ·rw [if_pos hi] at h
    exact .inr (.inl ⟨ho, i', r, rfl, hi, h⟩)
   ·rw [if_neg hi] at h
    by_cases hi2 : i' = i
    ·rw [if_pos hi2] at h
     split at h
     ·cases h
     ·rename_i j q'
      by_cases hj : off ≤ j
      ·rw [if_pos hj] at h
       simp only [Option.bind_eq_some_iff] at h
       obtain ⟨⟨o2, len⟩, hs, h⟩ := h
       refine .inr (.inr ⟨ho, j - off, o2, len, q', by rw [hi2, Nat.add_sub_cancel' hj], hs, ?_⟩)
       dsimp only at h
       split at h
       ·simp only [Option.map_eq_some_iff] at h
        obtain ⟨y, hy, rfl⟩ := h
        exact .inl ⟨rfl, y.2, hy⟩
       ·split at h
        ·exact .inr ⟨by simp, h⟩
        ·cases h
      ·rw [if_neg hj] at h; cases h
    ·rw [if_neg hi2] at h; cases h
 ·rw [if_neg ho] at h
  exact .inl ⟨ho, h⟩
theorem takes_rep (hE : Ok E P) {ok : Nat → Prop} {F : Frz} {w w' : World} {β : Bet} {os os' : List (Ob RT den)} (h : Hid E ok F β os w) (hobj : ∀ (o : Nat) ob, os[o]? = some ob → ∀ b m, β o = some (b, m) → ORep E F w β b m ob) {o i off : Nat} {cs told : List (D RT den)} (ha : Absorbed E o os cs told os')
  (hreal : ∀ (o2 : Nat) b m, o2 ≠ o → β o2 = some (b, m) → w'.heap[b]? = w.heap[b]?) (hhid : ∀ o2 p b m, β.h o2 p = some (b, m) → w'.heap[b]? = w.heap[b]?) {u : Nat → Value} {sr : Nat → Option (Nat × Nat)} (hsr : Srcs β cs u sr) {k : Nat} {c t : D RT den} (hc : cs[k]? = some c) (ht : told[k]? = some t) (hv : VRep E F w β c (u k)) :
  TRep E w' (β.takes o i off sr o) [i, off + k] t (u k) := by
 obtain ⟨a1, a2, a3, a4, a5⟩ := ha
 rcases a3 k c hc with ⟨o2, len, rfl, hne, hg, hor⟩ | ⟨z, τ, rfl, h2⟩ | ⟨h1, h2⟩
 ·cases hsk : sr k with
  | none =>
   obtain ⟨a, e1, rfl, e3⟩ := hsr.2 k o2 len hc hsk
   rw [e1]
   rcases hor with ⟨τ, n, f, _, _, h2⟩ | ⟨τ, n, p, f, _, _, h2⟩ <;> (rw [ht] at h2; have h2 := Option.some.inj h2; subst h2; exact .nul _ none τ f a (by simp) (by simp) e3 (fun q => takes_none hsk q))
  | some x =>
  obtain ⟨o3, len3⟩ := x
  obtain ⟨e0, b, m, cap, hb, hu, hcap, hlm⟩ := hsr.1 k o3 len3 hsk
  rw [hc] at e0; cases e0
  have hnew := fun q => takes_new (β := β) (o := o) (i := i) (off := off) hsk q
  have hbd : ∀ i' r x, β.takes o i off sr o ([i, off + k] ++ i' :: r) = some x → i' < len := by
   intro i' r x hx
   have hx : β.takes o i off sr o (i :: (off + k) :: (i' :: r)) = some x := hx
   rw [hnew (i' :: r)] at hx
   dsimp only at hx
   split at hx
   ·assumption
   ·cases hx
  rw [hu]
  rcases hor with ⟨τ, n, f, ho2, hsc, h2⟩ | ⟨τ, n, p, f, ho2, hp, h2⟩ <;> (rw [ht] at h2; have h2 := Option.some.inj h2; subst h2)
  ··obtain ⟨hmn, ⟨hm1, hm2⟩, cur, e, hh, hs, hr⟩ := hobj o2 _ ho2 b m hb
    subst hmn
    refine .row _ τ len f cap b cur e (by rw [hnew []]; simp only [hb, Option.map_some, hcap.2]) ⟨hcap.1, by omega⟩ (by rw [hreal o2 b m hne hb]; exact hh) (by rw [hcap.2]; exact hs) hbd (fun i' j' c' hi hc' => ?_)
    have hq := hE.scl τ hsc (f i')
    rw [List.all_eq_true] at hq
    have hq := hq c' (List.mem_of_getElem? hc')
    exact .sc _ _ _ hq ((hr i' j' c' (by omega) hc').sce hq)
  ··obtain ⟨hmn, ⟨hm1, hm2⟩, hpn, cur, e, hh, hs, hr⟩ := h.reps o2 _ τ n p f ho2 b m hb
    subst hmn
    refine .row _ τ len f cap b cur e (by rw [hnew []]; simp only [hb, Option.map_some, hcap.2]) ⟨hcap.1, by omega⟩ (by rw [hreal o2 b m hne hb]; exact hh) (by rw [hcap.2]; exact hs) hbd (fun i' j' c' hi hc' => ?_)
    have h9 := (hr i' j' c' (by omega) hc').1 (by omega)
    refine h9.move (fun q => ?_) (fun q b m hq => hhid o2 _ b m hq)
    show β.takes o i off sr o (i :: (off + k) :: (i' :: j' :: q)) = _
    rw [hnew (i' :: j' :: q)]
    dsimp only
    rw [if_pos hi]; rfl
 ·rw [ht] at h2; have h2 := Option.some.inj h2; subst h2
  have hsk : sr k = none := by
   cases hsk : sr k with
   | none => rfl
   | some x =>
    have := (hsr.1 k x.1 x.2 hsk).1
    rw [hc] at this; cases this
  generalize u k = v at hv ⊢
  cases hv with
  | emp _ _ a k1 k2 k3 => exact .nul _ (some z) τ _ a (by simpa using k1) (by simpa using k2) k3 (fun q => takes_none hsk q)
 ·rw [ht] at h2; have h2 := Option.some.inj h2; subst h2
  refine .sc _ _ _ ?_ (hv.sc h1)
  cases t <;> first | rfl | cases h1
theorem hid_takes {ok : Nat → Prop} {F : Frz} {w w' : World} {β β' : Bet} {os os1 os' : List (Ob RT den)} (h : Hid E ok F β os w) (hinj : ∀ o o' b m m', β o = some (b, m) → β o' = some (b, m') → o = o') (hnm : ∀ o b m, β o = some (b, m) → ok b ∧ b < w.heap.size ∧ (∀ off, ¬ F b off) ∧ o < os.length)
  {o i off : Nat} {cs told : List (D RT den)} (ha : Absorbed E o os cs told os1) (hlive : os[o]? ≠ some .gone) (hk : Keeps F w w') (hsz : w.heap.size ≤ w'.heap.size) (hlen : os.length ≤ os'.length) (holt : o < os'.length)
  {sr : Nat → Option (Nat × Nat)} (hsr : ∀ k o2 len, sr k = some (o2, len) → cs[k]? = some (.os o2 len)) (hh : β'.h = β.takes o i off sr) (hr : ∀ o', o' ≠ o → β' o' = β o') (hb : ∀ b m, β' o = some (b, m) → β.off b ∧ ∀ i m', i ≠ o → β i ≠ some (b, m'))
  (hsame : ∀ (i' : Nat) (ob : Ob RT den), i' ≠ o → os1[i']? = some ob → ob.dg = true → os'[i']? = some ob) (hsame' : ∀ (i' : Nat) l τ n p f, i' ≠ o → os'[i']? = some (Ob.deep (den := den) l τ n p f) → os1[i']? = some (.deep l τ n p f))
  {l : Bool} {τ : RT} {n p : Nat} {f : Nat → den τ} (hob : os'[o]? = some (.deep l τ n p f)) (hip : i < p) (hold : ∀ i' r x, β.h o (i' :: r) = some x → i' < i → i' < p)
  (hreal : ∀ (o2 : Nat) b m, o2 ≠ o → β o2 = some (b, m) → w'.heap[b]? = w.heap[b]?) (hhid : ∀ o2 p b m, β.h o2 p = some (b, m) → w'.heap[b]? = w.heap[b]?) (hbo : ∃ y, β' o = some y)
  (hrep : ∀ b m, β' o = some (b, m) → DRep E F w' (β'.h o) b m τ n p f) : Hid E ok F β' os' w' := by
 obtain ⟨a1, a2, a3, a4, a5⟩ := ha
 have src : ∀ (k o2 len : Nat), cs[k]? = some (.os o2 len) → o2 ≠ o ∧ os1[o2]? = some .gone ∧ os[o2]? ≠ some .gone ∧ o2 < os.length := by
  intro k o2 len hc
  rcases a3 k _ hc with ⟨o3, len3, e, h1, h2, h3⟩ | ⟨z, τ, e, _⟩ | ⟨e, _⟩
  ·cases e
   refine ⟨h1, h2, ?_, ?_⟩
   ·rcases h3 with ⟨τ, n, f, h4, _⟩ | ⟨τ, n, p, f, h4, _⟩ <;> (rw [h4]; simp)
   ·rcases h3 with ⟨τ, n, f, h4, _⟩ | ⟨τ, n, p, f, h4, _⟩ <;> exact (List.getElem?_eq_some_iff.1 h4).1
  ·cases e
  ·cases e
 have gone : ∀ (o' : Nat), os[o']? = some .gone → os'[o']? = some .gone := by
  intro o' hg
  have hne : o' ≠ o := fun e => hlive (by rw [← e]; exact hg)
  refine hsame o' _ hne ?_ rfl
  by_cases hs : ∃ (k o2 len : Nat), cs[k]? = some (.os o2 len) ∧ o2 = o'
  ·obtain ⟨k, o2, len, hc, rfl⟩ := hs
   exact (src k o2 len hc).2.1
  ·rw [a5 o' (fun k o2 len hc e => hs ⟨k, o2, len, hc, e⟩)]; exact hg
 have gone2 : ∀ (k o2 len : Nat), cs[k]? = some (.os o2 len) → os'[o2]? = some .gone := fun k o2 len hc => hsame o2 _ (src k o2 len hc).1 (src k o2 len hc).2.1 rfl
 have whence : ∀ o' q x, β'.h o' q = some x → (β.h o' q = some x ∧ (o' = o → ∃ i' r, q = i' :: r ∧ i' < i)) ∨ (o' = o ∧ ∃ k o2 len q', q = i :: (off + k) :: q' ∧ cs[k]? = some (.os o2 len) ∧ ((q' = [] ∧ ∃ m, β o2 = some (x.1, m)) ∨ (q' ≠ [] ∧ β.h o2 q' = some x))) := by
  intro o' q x hx
  rw [hh] at hx
  rcases takes_cases hx with ⟨h1, h2⟩ | ⟨h1, i', r, h2, h3, h4⟩ | ⟨h1, k, o2, len, q', h2, h3, h4⟩
  ·exact .inl ⟨h2, fun e => absurd e h1⟩
  ·subst h1; exact .inl ⟨h4, fun _ => ⟨i', r, h2, h3⟩⟩
  ·exact .inr ⟨h1, k, o2, len, q', h2, hsr k o2 len h3, h4⟩
 refine ⟨fun o' q b m hx => ?_, fun o' q b m hx => ?_, fun o' q b m o2 m' hx hx' => ?_, fun o' q o2 q2 b m m' hx hx' hg hg' => ?_, fun o' q x hx => ?_, fun o' l' τ' n' p' f' ho' b m hb' => ?_⟩
 ·rcases whence o' q _ hx with ⟨h1, _⟩ | ⟨_, k, o2, len, q', _, _, ⟨_, m2, h5⟩ | ⟨_, h5⟩⟩
  ·exact h.ok _ _ _ _ h1
  ·exact (hnm _ _ _ h5).1
  ·exact h.ok _ _ _ _ h5
 ·have h9 : (b < w.heap.size ∧ (∀ off, ¬ F b off)) ∧ o' < os'.length := by
   rcases whence o' q _ hx with ⟨h1, _⟩ | ⟨h0, k, o2, len, q', _, _, ⟨_, m2, h5⟩ | ⟨_, h5⟩⟩
   ·obtain ⟨n1, n2, n3⟩ := h.names _ _ _ _ h1; exact ⟨⟨n1, n2⟩, by omega⟩
   ·obtain ⟨n0, n1, n2, n3⟩ := hnm _ _ _ h5; exact ⟨⟨n1, n2⟩, by rw [h0]; exact holt⟩
   ·obtain ⟨n1, n2, n3⟩ := h.names _ _ _ _ h5; exact ⟨⟨n1, n2⟩, by rw [h0]; exact holt⟩
  exact ⟨by omega, h9.1.2, h9.2⟩
 ·
  have ne : o2 ≠ o := by
   intro e
   subst e
   obtain ⟨h1, h2⟩ := hb b m' hx'
   rcases whence o' q _ hx with ⟨h3, _⟩ | ⟨_, k, o3, len, q', _, hc, ⟨_, m2, h5⟩ | ⟨_, h5⟩⟩
   ·exact h1 _ _ _ h3
   ·exact h2 o3 m2 (src k o3 len hc).1 h5
   ·exact h1 _ _ _ h5
  rw [hr o2 ne] at hx'
  rcases whence o' q _ hx with ⟨h3, _⟩ | ⟨_, k, o3, len, q', _, hc, ⟨_, m2, h5⟩ | ⟨_, h5⟩⟩
  ·exact gone o2 (h.real _ _ _ _ _ _ h3 hx')
  ·have := hinj _ _ _ _ _ h5 hx'
   subst this
   exact gone2 k o3 len hc
  ·exact gone o2 (h.real _ _ _ _ _ _ h5 hx')
 ·have hg1 : os[o']? ≠ some .gone := fun e => hg (gone o' e)
  have hg2 : os[o2]? ≠ some .gone := fun e => hg' (gone o2 e)
  rcases whence o' q _ hx with ⟨h1, _⟩ | ⟨e1, k, o3, len, q3, eq3, hc, h5⟩ <;> rcases whence o2 q2 _ hx' with ⟨h1', _⟩ | ⟨e1', k', o4, len', q4, eq4, hc', h5'⟩
  ·exact h.inj _ _ _ _ _ _ _ h1 h1' hg1 hg2
  ·exfalso
   rcases h5' with ⟨_, m2, h6⟩ | ⟨_, h6⟩
   ·exact (src k' o4 len' hc').2.2.1 (h.real _ _ _ _ _ _ h1 h6)
   ·have := (h.inj _ _ _ _ _ _ _ h1 h6 hg1 (src k' o4 len' hc').2.2.1).1
    subst this
    exact hg (gone2 k' o' len' hc')
  ·exfalso
   rcases h5 with ⟨_, m2, h6⟩ | ⟨_, h6⟩
   ·exact (src k o3 len hc).2.2.1 (h.real _ _ _ _ _ _ h1' h6)
   ·have := (h.inj _ _ _ _ _ _ _ h1' h6 hg2 (src k o3 len hc).2.2.1).1
    subst this
    exact hg' (gone2 k o2 len hc)
  ·subst e1; subst e1'
   have both : o3 = o4 ∧ q3 = q4 := by
    rcases h5 with ⟨e3, m2, h6⟩ | ⟨e3, h6⟩ <;> rcases h5' with ⟨e4, m3, h6'⟩ | ⟨e4, h6'⟩
    ·exact ⟨hinj _ _ _ _ _ h6 h6', by rw [e3, e4]⟩
    ·exact absurd (h.real _ _ _ _ _ _ h6' h6) (src k o3 len hc).2.2.1
    ·exact absurd (h.real _ _ _ _ _ _ h6 h6') (src k' o4 len' hc').2.2.1
    ·exact h.inj _ _ _ _ _ _ _ h6 h6' (src k o3 len hc).2.2.1 (src k' o4 len' hc').2.2.1
   obtain ⟨rfl, rfl⟩ := both
   have := a4 k k' o3 len len' hc hc'
   subst this
   exact ⟨rfl, by rw [eq3, eq4]⟩
 ·rcases whence o' q _ hx with ⟨h1, h2⟩ | ⟨e1, k, o3, len, q3, eq3, hc, h5⟩
  ·by_cases e : o' = o
   ·subst e
    obtain ⟨i', r, e1, e2⟩ := h2 rfl
    subst e1
    exact .inr ⟨i', r, l, τ, n, p, f, rfl, hold i' r x h1 e2, hob, hbo⟩
   ·rcases h.bound o' q x h1 with h9 | ⟨i', q', l', τ', n', p', f', e1, e2, e3, y, e4⟩
    ·exact .inl (gone o' h9)
    ·by_cases hs : ∃ (k o2 len : Nat), cs[k]? = some (.os o2 len) ∧ o2 = o'
     ·obtain ⟨k, o2, len, hc, rfl⟩ := hs
      exact .inl (gone2 k o2 len hc)
     ·exact .inr ⟨i', q', l', τ', n', p', f', e1, e2, hsame o' _ e (by rw [a5 o' (fun k o2 len hc e => hs ⟨k, o2, len, hc, e⟩)]; exact e3) rfl, y, by rw [hr o' e]; exact e4⟩
  ·subst e1
   exact .inr ⟨i, _, l, τ, n, p, f, eq3, hip, hob, hbo⟩
 ·by_cases e : o' = o
  ·subst e
   rw [hob] at ho'
   cases ho'
   exact hrep b m hb'
  ·have h1 := hsame' o' l' τ' n' p' f' e ho'
   rw [hr o' e] at hb'
   have hs : ¬ ∃ (k o2 len : Nat), cs[k]? = some (.os o2 len) ∧ o2 = o' := by
    rintro ⟨k, o2, len, hc, rfl⟩
    rw [(src k o2 len hc).2.1] at h1; cases h1
   rw [a5 o' (fun k o2 len hc e => hs ⟨k, o2, len, hc, e⟩)] at h1
   exact (h.reps o' l' τ' n' p' f' h1 b m hb').mono (fun _ _ h => h) hk (hreal o' b m e hb') (fun q => by rw [hh, takes_ne e]) (fun q b m hx => hhid o' q b m hx)
theorem Rel.turnD {F0 : Was} {w0 : World} {F : Frz} {β β' : Bet} {s : St RT den} {a : Act} {w : World} (h : Rel E F0 w0 F β s a w) {o b : Nat} {m : Nat × Nat} (hb : β o = some (b, m)) (cur : Array Value) {os1 : List (Ob RT den)} {l : Bool} {τ : RT} {n p : Nat} {f : Nat → den τ}
  (hr : β'.r = β.r) (hle : β.le β') (hlen : os1.length = s.objs.length) (hos : ∀ (i : Nat) (ob' : Ob RT den), i ≠ o → os1[i]? = some ob' → s.objs[i]? = some ob' ∨ ob' = .gone) (hlent : ∀ (i : Nat) (ob' : Ob RT den), i ≠ o → s.objs[i]? = some ob' → ob'.isLent = true → os1[i]? = some ob')
  (hl : ∀ ob', s.objs[o]? = some ob' → ob'.isLent = true → l = true) (hph : ∀ i, i < F0.len → β'.h i = β.h i)
  (hid : Hid E (fun b => w0.heap.size ≤ b ∨ F0.lent b) F β' (os1.set o (.deep l τ n p f)) (w.setRow b cur)) : Rel E F0 w0 F β' { s with objs := os1.set o (.deep l τ n p f) } a (w.setRow b cur) := by
 have hk := keeps_setRow h hb cur
 have hrr : ∀ i, β' i = β i := fun i => by rw [hr]
 refine ⟨h.defers, h.size, fun i d hd => (h.slots i d hd).mono (fun _ _ h => h) hk hle, fun i ob' hi c m' hc => ?_, fun i c m' hc => ?_, fun i j c m1 m2 h1 h2 => h.inj i j c m1 m2 (by rw [← hrr]; exact h1) (by rw [← hrr]; exact h2), ?_, fun b' o' hf => by rw [setRow_size]; exact h.frz b' o' hf, h.frz1, h.frz2, fun o' hx => ⟨by rw [hrr]; exact (h.place o' hx).1, by
   obtain ⟨ob', h1, h2⟩ := (h.place o' hx).2
   by_cases e : o' = o
   ·subst e
    exact ⟨.deep l τ n p f, by simp [hlen, (List.getElem?_eq_some_iff.1 h1).1], hl ob' h1 h2⟩
   ·exact ⟨ob', by rw [List.getElem?_set_ne (Ne.symm e)]; exact hlent o' ob' e h1 h2, h2⟩⟩, fun i hi => by rw [hph i hi]; exact h.placeH i hi, hid⟩
 ·rw [hrr] at hc
  by_cases hio : i = o
  ·subst hio
   have : i < os1.length := by rw [hlen]; exact (h.names i c m' hc).2.2.2
   simp [this] at hi
   subst hi; trivial
  ·rw [List.getElem?_set_ne (Ne.symm hio)] at hi
   rcases hos i ob' hio hi with h9 | rfl
   ·exact (h.objs i ob' h9 c m' hc).mono (fun _ _ h => h) hk (setRow_other w b c cur (fun e => by subst e; exact hio (h.inj i o c _ _ hc hb))) hle
   ·trivial
 ·rw [hrr] at hc
  obtain ⟨h1, h2, h3, h4⟩ := h.names i c m' hc
  exact ⟨h1, by rw [setRow_size]; exact h2, h3, by simp [hlen]; exact h4⟩
 ·refine h.below.trans ⟨rfl, rfl, rfl, by rw [setRow_size]; exact Nat.le_refl _, fun k hk' hno => setRow_other w b k cur (fun e => by subst e; rcases (h.names o k m hb).1 with h9 | h9 <;> first | omega | exact hno h9)⟩
theorem D.sc_sce {d : D RT den} (h : d.sc = true) : d.sce = true := by cases d <;> first | rfl | cases h
theorem storeDeep_rel (hE : Ok E P) {F0 : Was} {w0 : World} {F : Frz} {β : Bet} {s : St RT den} {a : Act} {w : World} (h : Rel E F0 w0 F β s a w) {o z k off b n : Nat} {m : Nat × Nat} (hb : β o = some (b, m)) (hkm : k < m.1) {l : Bool} {τ : RT} {nn p : Nat} {f : Nat → den τ} (hob : s.objs[o]? = some (.deep l τ nn p f))
  {new : List (D RT den)} {os' : List (Ob RT den)} {vs : Array Value} (hnl : new.length = n) (hvs : vs.size = n) (hnew : ∀ (j : Nat) c, new[j]? = some c → VRep E F w β c (vs.getD j Go.undef)) (hs : storeDeep E s.objs o z k off l τ nn p f new = some (true, os')) :
  ∃ cur e, w.heap[b]? = some (.cells cur e (0, 0)) ∧ k * z + off + n ≤ cur.size ∧ (∀ (i : Nat), s.objs[i]? = some (Ob.gone) → os'[i]? = some (Ob.gone)) ∧ (∀ (i : Nat) lb cs, s.objs[i]? = some (Ob.box lb cs) → os'[i]? = some (Ob.box lb cs)) ∧
   ∃ β', Rel E F0 w0 F β' ({ s with objs := os' } : St RT den) a (w.setRow b (cur.toList.take (k * z + off) ++ vs.toList ++ cur.toList.drop (k * z + off + n)).toArray) ∧ β'.r = β.r := by
 unfold storeDeep at hs
 have hlive : s.objs[o]? ≠ some .gone := by rw [hob]; simp
 have holt : o < s.objs.length := (List.getElem?_eq_some_iff.1 hob).1
 obtain ⟨hmn, ⟨hm1, hm2⟩, hpn, cur, e, hh, hsz, hr⟩ := h.hid.reps o l τ nn p f hob b m hb
 subst hmn
 split at hs
 ·rename_i hz
  have e0 : (k + 1) * E.size τ ≤ m.2 * E.size τ := Nat.mul_le_mul_right _ (by omega)
  rw [Nat.add_mul, Nat.one_mul, hz] at e0
  have hszz : cur.size = m.2 * z := by rw [← hz]; exact hsz
  have cells : ∀ (told cs : List (D RT den)) (y : den τ), told.length = n → put (E.cells τ (f k)) off told = some cs → E.dec τ cs = some y → off + n ≤ z ∧ cs.length = z ∧ E.cells τ y = cs ∧
    ∀ (i j : Nat) (c : D RT den), i < m.1 → (E.cells τ (if i = k then y else f i))[j]? = some c →
     (i = k ∧ off ≤ j ∧ j < off + n ∧ told[j - off]? = some c ∧ ((cur.toList.take (k * z + off) ++ vs.toList ++ cur.toList.drop (k * z + off + n)).toArray.getD (i * z + j) Go.undef) = vs.getD (j - off) Go.undef) ∨
     (¬ (i = k ∧ off ≤ j ∧ j < off + n) ∧ (E.cells τ (f i))[j]? = some c ∧ ((cur.toList.take (k * z + off) ++ vs.toList ++ cur.toList.drop (k * z + off + n)).toArray.getD (i * z + j) Go.undef) = cur.getD (i * z + j) Go.undef) := by
   intro told cs y htl hput hdec
   obtain ⟨p1, p2, p3⟩ := put_get hput
   have hcs := hE.dec τ _ y hdec
   rw [hE.size, hz] at p1 p2
   have hfit : k * z + off + n ≤ cur.size := by omega
   refine ⟨by omega, p2, hcs, fun i j c hi hc => ?_⟩
   have hl := laid_get cur.toList vs.toList (k * z + off) (by simp; omega) (i * z + j)
   simp only [Array.length_toList, hvs] at hl
   have e2 : (cur.toList.take (k * z + off) ++ vs.toList ++ cur.toList.drop (k * z + off + n)).toArray.getD (i * z + j) Go.undef = (cur.toList.take (k * z + off) ++ vs.toList ++ cur.toList.drop (k * z + off + n)).getD (i * z + j) Go.undef := by rw [← getD_toList]
   have hjz : j < z := by
    rw [← hz, ← hE.size τ (if i = k then y else f i)]
    exact (List.getElem?_eq_some_iff.1 hc).1
   rw [e2, hl]
   by_cases hik : i = k
   ·subst hik
    rw [if_pos rfl, hcs] at hc
    have hj := p3 j c hc
    rw [htl] at hj
    by_cases hin : off ≤ j ∧ j < off + n
    ·rw [if_pos hin] at hj
     rw [if_pos (by omega), getD_toList, show i * z + j - (i * z + off) = j - off by omega]
     exact .inl ⟨rfl, hin.1, hin.2, hj, rfl⟩
    ·rw [if_neg hin] at hj
     rw [if_neg (by omega), getD_toList]
     exact .inr ⟨fun h => hin h.2, hj, rfl⟩
   ·rw [if_neg hik] at hc
    have hout : ¬ (k * z + off ≤ i * z + j ∧ i * z + j < k * z + off + n) := by
     rcases Nat.lt_or_gt_of_ne hik with hlt | hlt
     ·have : (i + 1) * z ≤ k * z := Nat.mul_le_mul_right _ hlt
      rw [Nat.add_mul, Nat.one_mul] at this
      omega
     ·have : (k + 1) * z ≤ i * z := Nat.mul_le_mul_right _ hlt
      rw [Nat.add_mul, Nat.one_mul] at this
      omega
    rw [if_neg hout, getD_toList]
    exact .inr ⟨fun h => hik h.1, hc, rfl⟩
  have hoff : β.off b := h.hid.off_real hb hlive
  have hk := fun cur => keeps_setRow h hb cur
  have hhid : ∀ (cur : Array Value) o2 q b2 m2, β.h o2 q = some (b2, m2) → (w.setRow b cur).heap[b2]? = w.heap[b2]? := fun cur o2 q b2 m2 hx => setRow_other w b b2 cur (fun e => by subst e; exact hoff o2 q m2 hx)
  have hother : ∀ (cur : Array Value) (o2 : Nat) b2 m2, o2 ≠ o → β o2 = some (b2, m2) → (w.setRow b cur).heap[b2]? = w.heap[b2]? := fun cur o2 b2 m2 hne hx => setRow_other w b b2 cur (fun e => by subst e; exact hne (h.inj _ _ _ _ _ hx hb))
  cases hsc : new.all D.sc with
  | true =>
   rw [hsc] at hs
   simp only [cond_true, Option.bind_eq_some_iff, Option.some.injEq, Prod.mk.injEq, true_and] at hs
   obtain ⟨cs, hput, y, hdec, rfl⟩ := hs
   obtain ⟨q1, q2, q3, q4⟩ := cells new cs y hnl hput hdec
   have hfit : k * z + off + n ≤ cur.size := by omega
   rw [List.all_eq_true] at hsc
   refine ⟨cur, e, hh, hfit, fun i hi => ?_, fun i lb cs' hi => ?_, β, ?_, rfl⟩
   ·rw [List.getElem?_set_ne (fun e => by subst e; rw [hob] at hi; cases hi)]; exact hi
   ·rw [List.getElem?_set_ne (fun e => by subst e; rw [hob] at hi; cases hi)]; exact hi
   refine h.turnD hb _ rfl (Bet.le_refl _) rfl (fun i ob' _ hi => .inl hi) (fun i ob' _ hi _ => hi) (fun ob' ho' hle => by rw [hob] at ho'; cases ho'; exact hle) (fun _ _ => rfl) ?_
   refine ⟨h.hid.ok, fun o' q b' m' hx => ?_, fun o' q b' m' o2 m2 hx hx' => ?_, fun o' q o2 q2 b' m' m2 hx hx' hg hg' => ?_, fun o' q x hx => ?_, fun o' l' τ' n' p' f' ho' b' m' hb' => ?_⟩
   ·obtain ⟨n1, n2, n3⟩ := h.hid.names o' q b' m' hx
    exact ⟨by rw [setRow_size]; exact n1, n2, by simpa using n3⟩
   ·have := h.hid.real o' q b' m' o2 m2 hx hx'
    rw [List.getElem?_set_ne (fun e => by subst e; exact hlive this)]; exact this
   ·refine h.hid.inj o' q o2 q2 b' m' m2 hx hx' (fun e => hg ?_) (fun e => hg' ?_) <;> rw [List.getElem?_set_ne (fun e' => by subst e'; exact hlive e)] <;> exact e
   ·rcases h.hid.bound o' q x hx with h9 | ⟨i, q', l', τ', n', p', f', e1, e2, e3, hy⟩
    ·exact .inl (by rw [List.getElem?_set_ne (fun e' => by subst e'; exact hlive h9)]; exact h9)
    ·by_cases e4 : o' = o
     ·subst e4
      rw [hob] at e3; cases e3
      exact .inr ⟨i, q', l, τ, m.1, p, fun i => if i = k then y else f i, e1, e2, by simp [holt], hy⟩
     ·exact .inr ⟨i, q', l', τ', n', p', f', e1, e2, by rw [List.getElem?_set_ne (Ne.symm e4)]; exact e3, hy⟩
   ·by_cases e4 : o' = o
    ·subst e4
     simp [holt] at ho'
     obtain ⟨rfl, rfl, rfl, rfl, ho'⟩ := ho'
     have ho' := eq_of_heq ho'
     subst ho'
     rw [hb] at hb'; cases hb'
     refine ⟨rfl, ⟨hm1, hm2⟩, by omega, _, e, setRow_heap w b cur _ e _ hh, by rw [hz]; simp; omega, fun i j c hi hc => ?_⟩
     rw [hz]
     rcases q4 i j c hi hc with ⟨e1, e2, e3, e4, e5⟩ | ⟨e1, e2, e3⟩
     ·rw [e5]
      have hcs := hsc c (List.mem_of_getElem? e4)
      have hv := hnew (j - off) c e4
      exact ⟨fun _ => .sc _ _ _ (D.sc_sce hcs) (hv.sc hcs), fun _ => hv.sc hcs⟩
     ·rw [e3]
      have := hr i j c hi e2
      rw [hz] at this
      exact ⟨fun hp => (this.1 hp).mono (fun _ => rfl) (fun q b2 m2 hx => hhid _ o' q b2 m2 hx), fun hp => (this.2 hp).mono (fun _ _ h => h) (hk _) (Bet.le_refl _)⟩
    ·rw [List.getElem?_set_ne (Ne.symm e4)] at ho'
     exact (h.hid.reps o' l' τ' n' p' f' ho' b' m' hb').mono (fun _ _ h => h) (hk _) (hother _ o' b' m' e4 hb') (fun _ => rfl) (fun q b2 m2 hx => hhid _ o' q b2 m2 hx)
  | false =>
   rw [hsc] at hs
   cases l with
   | true => simp at hs
   | false =>
   simp only [cond_false, Option.bind_eq_some_iff] at hs
   obtain ⟨⟨okc, told, os1⟩, habs, cs, hput, y, hdec, hs⟩ := hs
   cases hrest : (cs.take off ++ cs.drop (off + new.length)).all D.sce with
   | false => rw [hrest] at hs; cases hs
   | true =>
   rw [hrest] at hs
   simp only [cond_true, Option.some.injEq, Prod.mk.injEq, Bool.and_eq_true, decide_eq_true_eq] at hs
   obtain ⟨⟨rfl, rfl⟩, rfl⟩ := hs
   have ha := absorb_spec habs
   have ha' := ha
   obtain ⟨a1, a2, a3, a4, a5⟩ := ha'
   obtain ⟨q1, q2, q3, q4⟩ := cells told cs y (by omega) hput hdec
   have hfit : k * z + off + n ≤ cur.size := by omega
   have hone : os1[o]? = s.objs[o]? := a5 o (fun j o2 len hc => by
    rcases a3 j _ hc with ⟨o3, len3, e1, h1, h2, h3⟩ | ⟨z, τ, e1, _⟩ | ⟨e1, _⟩
    ·cases e1; exact h1
    ·cases e1
    ·cases e1)
   have src : ∀ (i : Nat) (ob' : Ob RT den), os1[i]? = some ob' → s.objs[i]? = some ob' ∨ ob' = .gone := by
    intro i ob' hi
    by_cases hs : ∃ (j o2 len : Nat), new[j]? = some (.os o2 len) ∧ o2 = i
    ·obtain ⟨j, o2, len, hc, rfl⟩ := hs
     rcases a3 j _ hc with ⟨o3, len3, e1, h1, h2, h3⟩ | ⟨z, τ, e1, _⟩ | ⟨e1, _⟩
     ·cases e1; rw [h2] at hi; cases hi; exact .inr rfl
     ·cases e1
     ·cases e1
    ·rw [a5 i (fun j o2 len hc e => hs ⟨j, o2, len, hc, e⟩)] at hi
     exact .inl hi
   have src2 : ∀ (i : Nat) (ob' : Ob RT den), s.objs[i]? = some ob' → (∀ τ n f, ob' ≠ .row false τ n f) → (∀ τ n p f, ob' ≠ .deep false τ n p f) → os1[i]? = some ob' := by
    intro i ob' hi hn1 hn2
    rw [a5 i (fun j o2 len hc e => ?_)]
    ·exact hi
    ·subst e
     rcases a3 j _ hc with ⟨o3, len3, e1, h1, h2, ⟨τ, n, f, h3, _⟩ | ⟨τ, n, p, f, h3, _⟩⟩ | ⟨z, τ, e1, _⟩ | ⟨e1, _⟩
     ·cases e1; rw [h3] at hi; cases hi; exact hn1 _ _ _ rfl
     ·cases e1; rw [h3] at hi; cases hi; exact hn2 _ _ _ _ rfl
     ·cases e1
     ·cases e1
   obtain ⟨sr, hsr⟩ := srcs_of (u := fun j => vs.getD j Go.undef) hnew
   have hle : β.le ⟨β.r, β.takes o k off sr⟩ := ⟨fun _ _ h => h, fun o' q x hx => by
    show β.takes o k off sr o' q = some x
    by_cases e4 : o' = o
    ·subst e4
     rcases h.hid.bound o' q x hx with h9 | ⟨i, q', l', τ', n', p', f', e1, e2, e3, hy⟩
     ·exact absurd h9 hlive
     ·rw [hob] at e3; cases e3
      subst e1
      rw [takes_old e2]; exact hx
    ·rw [takes_ne e4]; exact hx⟩
   refine ⟨cur, e, hh, hfit, fun i hi => ?_, fun i lb cs' hi => ?_, ⟨β.r, β.takes o k off sr⟩, ?_, rfl⟩
   ·rw [List.getElem?_set_ne (fun e => by subst e; rw [hob] at hi; cases hi)]; exact src2 i _ hi (fun _ _ _ e => by cases e) (fun _ _ _ _ e => by cases e)
   ·rw [List.getElem?_set_ne (fun e => by subst e; rw [hob] at hi; cases hi)]; exact src2 i _ hi (fun _ _ _ e => by cases e) (fun _ _ _ _ e => by cases e)
   refine h.turnD hb _ rfl hle a2 (fun i ob' _ hi => src i ob' hi) (fun i ob' _ hi hl' => src2 i ob' hi (fun _ _ _ e => by subst e; cases hl') (fun _ _ _ _ e => by subst e; cases hl')) (fun ob' ho' hl' => by rw [hob] at ho'; cases ho'; cases hl') (fun i hi => ?_) ?_
   ·funext q
    exact takes_ne (fun e => by
     subst e
     obtain ⟨ob', h1, h2⟩ := (h.place i hi).2
     rw [hob] at h1; cases h1; cases h2)
   refine hid_takes (l := false) (τ := τ) (n := m.1) (p := k + 1) (f := fun i => if i = k then y else f i) h.hid h.inj (fun o b m hβ => h.names o b m hβ) ha hlive (hk _) (by rw [setRow_size]; exact Nat.le_refl _) (by simp [a2]) (by simp [a2]; exact holt) (fun k o2 len h => (hsr.1 k o2 len h).1) rfl (fun _ _ => rfl) (fun b' m' hb' => ?_) (fun i ob' hne hi _ => by rw [List.getElem?_set_ne (Ne.symm hne)]; exact hi) (fun i l' τ' n' p' f' hne hi => by rw [List.getElem?_set_ne (Ne.symm hne)] at hi; exact hi) (by simp [a2, holt]) (Nat.lt_succ_self k) (fun i' r x hx hlt => by omega) (hother _) (hhid _) ⟨_, hb⟩ (fun b' m' hb' => ?_)
   ·have hb' : β o = some (b', m') := hb'
    rw [hb] at hb'; cases hb'
    exact ⟨hoff, fun i m' hne hx => hne (h.inj _ _ _ _ _ hx hb)⟩
   ·have hb' : β o = some (b', m') := hb'
    rw [hb] at hb'; cases hb'
    refine ⟨rfl, ⟨hm1, hm2⟩, by omega, _, e, setRow_heap w b cur _ e _ hh, by rw [hz]; simp; omega, fun i j c hi hc => ?_⟩
    rw [hz]
    have hsce : ∀ j, (¬ (off ≤ j ∧ j < off + n)) → ∀ c, cs[j]? = some c → c.sce = true := by
     intro j hj c hc
     rw [List.all_eq_true] at hrest
     refine hrest c ?_
     rw [hnl]
     by_cases hlt : j < off
     ·exact List.mem_append_left _ (List.mem_of_getElem? (i := j) (by rw [List.getElem?_take, if_pos hlt]; exact hc))
     ·exact List.mem_append_right _ (List.mem_of_getElem? (i := j - (off + n)) (by rw [List.getElem?_drop, show off + n + (j - (off + n)) = j by omega]; exact hc))
    rcases q4 i j c hi hc with ⟨e1, e2, e3, e4, e5⟩ | ⟨e1, e2, e3⟩
    ·rw [e5]
     subst e1
     obtain ⟨c0, hc0⟩ : ∃ c0, new[j - off]? = some c0 := ⟨_, List.getElem?_eq_getElem (by omega)⟩
     have hv := hnew (j - off) c0 hc0
     refine ⟨fun _ => ?_, fun hp => absurd hp (by omega)⟩
     have hj : [i, j] = [i, off + (j - off)] := by rw [show off + (j - off) = j by omega]
     rw [hj]
     exact takes_rep (i := i) (off := off) hE h.hid h.objs ha (fun o2 b m hne hx => hother _ o2 b m hne hx) (fun o2 p b m hx => hhid _ o2 p b m hx) hsr hc0 e4 hv
    ·rw [e3]
     have hold := hr i j c hi e2
     rw [hz] at hold
     refine ⟨fun hp => ?_, fun hp => (hold.2 (by omega)).mono (fun _ _ h => h) (hk _) (Bet.le_refl _)⟩
     by_cases hik : i = k
     ·subst hik
      dsimp only at hc
      rw [if_pos rfl, q3] at hc
      have hcs := hsce j (fun hin => e1 ⟨rfl, hin⟩) c hc
      have := hold.2 (Nat.le_refl _)
      exact .sc _ _ _ hcs (this.sce hcs)
     ·have hlt : i < k := by omega
      exact (hold.1 hlt).move (fun q => takes_old hlt) (fun q b2 m2 hx => hhid _ o _ b2 m2 hx)
 ·cases hs
def AppRes (P : Program) (F0 : Was) (w0 : World) (F : Frz) (β : Bet) (t ty : TypeId) (vx : Value) (b o' len sz o : Nat) (u : Nat → Value) (w : World) : Prop :=
  ∃ w' bb cap' cur' e', (Builtin.append_ #[t, t] ty #[vx, .slice (some (at' b o')) 1 1]).run P w = .ok (.slice (some (at' bb 0)) (len + 1) cap') w' ∧ Keeps F w w' ∧ Keep F0.lent w0.heap.size w0 w' ∧ w.heap.size ≤ w'.heap.size ∧
   (∀ i b m, i ≠ o → β i = some (b, m) → w'.heap[b]? = w.heap[b]?) ∧ (∀ i p b m, β.h i p = some (b, m) → w'.heap[b]? = w.heap[b]?) ∧ w'.heap[bb]? = some (.cells cur' e' (0, 0)) ∧ cur'.size = cap' * sz ∧ len + 1 ≤ cap' ∧ cap' ≤ 9223372036854775807 ∧
   (∀ j, j < sz → cur'.getD (len * sz + j) Go.undef = u j) ∧ (len ≠ 0 → ∃ b0 m0 cur0 e0, β o = some (b0, m0) ∧ len ≤ m0.1 ∧ w.heap[b0]? = some (.cells cur0 e0 (0, 0)) ∧ ∀ k, k < len * sz → cur'.getD k Go.undef = cur0.getD k Go.undef) ∧
   (w0.heap.size ≤ bb ∨ F0.lent bb) ∧ bb < w'.heap.size ∧ (∀ off, ¬ F bb off) ∧ (∀ i m, i ≠ o → β i ≠ some (bb, m)) ∧ β.off bb
theorem append_sem {F0 : Was} {w0 : World} {F : Frz} {β : Bet} {s : St RT den} {a : Act} {w : World} (h : Rel E F0 w0 F β s a w) {t ty e : TypeId} {i : TypeInfo} {zv : Value} {sz by' len o b o' : Nat} {u : Nat → Value} (ht : P.underlying t = some (.slice e)) (h1 : P.info? e = some i) (h2 : i.zero = some zv)
  (hisz : i.size = sz) (hib : i.bytes = by') (hzv : zv.cells.size = sz) (hz0 : 0 < sz) (hu : ∀ j, j < sz → w.cell? (at' b (o' + j)) = some (u j)) (hone : ∀ j, j < sz → (u j).oneCell' = true) {vx : Value} (hx : VRep E F w β (.os o len) vx)
  (hrow : ∀ b0 m0, β o = some (b0, m0) → m0.1 ≤ m0.2 ∧ m0.2 ≤ 9223372036854775807 ∧ ∃ cur e', w.heap[b0]? = some (.cells cur e' (0, 0)) ∧ cur.size = m0.2 * sz) (hlive : s.objs[o]? ≠ some .gone) (hmax : len + 1 ≤ 9223372036854775807) (hbytes : (len + 1) * by' ≤ 140737488355328) :
  AppRes P F0 w0 F β t ty vx b o' len sz o u w := by
 have hl : (cellList 1 sz fun _ j => u j).length = 1 * i.size := by rw [cellList_len, hisz]
 have hnews := cellList_at (n := 1) (sz := sz) (u := fun _ j => u j) hz0 (w := w) (b := b) (o := o') (fun i j hi hj => by
  have : i = 0 := by omega
  subst this
  rw [Nat.zero_mul, Nat.add_zero]; exact hu j hj)
 have one : ∀ v ∈ cellList 1 sz (fun _ j => u j), v.oneCell' = true := by
  intro v hv
  obtain ⟨i, j, hi, hj, rfl⟩ := cellList_mem hz0 hv
  exact hone j hj
 have grown : ∀ (ob : Obj), Below w.heap.size w (w.drew.alloc ob) := fun ob => ⟨rfl, rfl, rfl, by simp, fun k hk => heap_alloc_old w.drew _ k hk⟩
 have keeps : ∀ (ob : Obj), Keeps F w (w.drew.alloc ob) := fun ob b' off u' hf hc => by rw [(grown ob).cell (p := at' b' off) (h.frz b' off hf)]; exact hc
 have last : ∀ (olds : List Value), olds.length = len * sz → ∀ j, j < sz → (olds ++ cellList 1 sz fun _ j => u j).getD (len * sz + j) Go.undef = u j := by
  intro olds hol j hj
  rw [List.getD_eq_getElem?_getD, List.getElem?_append_right (by omega), ← List.getD_eq_getElem?_getD, show len * sz + j - olds.length = 0 * sz + j by omega, cellList_get (by omega) hj]
 have room0 : ∀ (olds : List Value), olds.length = len * sz → ∀ old, old < len + 1 → (len ≠ 0 → ∃ b0 m0 cur0 e0, β o = some (b0, m0) ∧ len ≤ m0.1 ∧ w.heap[b0]? = some (.cells cur0 e0 (0, 0)) ∧ ∀ k, k < len * sz → olds.getD k Go.undef = cur0.getD k Go.undef) →
   (Builtin.append_ #[t, t] ty #[vx, .slice (some (at' b o')) 1 1]).run P w = .ok (.slice (some ⟨w.heap.size, 0, none⟩) (len + 1) (grownCap w (len + 1) old e)) (w.drew.alloc (.cells (olds.toArray ++ (cellList 1 sz fun _ j => u j).toArray ++ Builtin.zeroCells zv.cells (grownCap w (len + 1) old e - (len + 1))) e)) → AppRes P F0 w0 F β t ty vx b o' len sz o u w := by
  intro olds hol old hold hor hrun
  have hge := grownCap_ge w (len + 1) old e
  have hle := grownCap_le_maxLen w (len + 1) old e (by simp only [maxLen]; omega)
  simp only [maxLen] at hle
  have hcont : ∀ k, k < (len + 1) * sz → (olds.toArray ++ (cellList 1 sz fun _ j => u j).toArray ++ Builtin.zeroCells zv.cells (grownCap w (len + 1) old e - (len + 1))).getD k Go.undef = (olds ++ cellList 1 sz fun _ j => u j).getD k Go.undef := fun k hk => by
   have hlk : k < (olds ++ cellList 1 sz fun _ j => u j).length := by rw [List.length_append, hol, cellList_len, ← Nat.add_mul]; exact hk
   rw [← getD_toList]
   simp only [Array.toList_append]
   rw [List.getD_eq_getElem?_getD, List.getD_eq_getElem?_getD, List.getElem?_append_left hlk]
  refine ⟨_, w.heap.size, _, _, e, hrun, keeps _, h.below.trans (.of ((grown _).mono h.below.size)), (grown _).size, fun i b m hi hb => (grown _).block b (h.names i b m hb).2.1, fun i p b m hb => (grown _).block b (h.hid.names i p b m hb).1, heap_alloc_new w.drew _, ?_, hge, by omega, fun j hj => ?_, fun hl0 => ?_, .inl h.below.size, by simp, fun off hf => by have := h.frz _ off hf; omega, fun i m hi hb => by have := (h.names i _ m hb).2.1; omega, h.hid.off_new (Nat.le_refl _)⟩
  ·simp only [Array.size_append, List.size_toArray, size_zeroCells, hzv, hol, cellList_len, ← Nat.add_mul]
   congr 1
   omega
  ·rw [hcont _ (by rw [Nat.add_mul]; omega)]
   exact last olds hol j hj
  ·obtain ⟨b0, m0, cur0, e0, k1, k2, k3, k4⟩ := hor hl0
   refine ⟨b0, m0, cur0, e0, k1, k2, k3, fun k hk => ?_⟩
   rw [hcont k (by rw [Nat.add_mul]; omega), List.getD_eq_getElem?_getD, List.getElem?_append_left (by omega), ← List.getD_eq_getElem?_getD]
   exact k4 k hk
 cases hx with
 | os _ _ cap0 b0 m0 hb hcap hlm =>
  obtain ⟨hm1, hm2, cur, e', hh, hs⟩ := hrow b0 m0 hb
  have hlen0 : len * sz ≤ cur.size := by rw [hs]; exact Nat.mul_le_mul_right _ (by omega)
  have holen : (cur.toList.take (len * sz)).length = len * sz := by simp; omega
  have hol : ∀ k, k < len * sz → (cur.toList.take (len * sz)).getD k Go.undef = cur.getD k Go.undef := fun k hk => by
   rw [List.getD_eq_getElem?_getD, List.getElem?_take, if_pos hk, ← List.getD_eq_getElem?_getD, getD_toList]
  have hoff : β.off b0 := h.hid.off_real hb hlive
  by_cases hroom : len + 1 ≤ cap0
  ·have hfit0 : (len + 1) * sz ≤ cur.size := by rw [hs, ← hcap.2]; exact Nat.mul_le_mul_right _ hroom
   have hfit : len * i.size + (cellList 1 sz fun _ j => u j).length ≤ cur.size := by rw [cellList_len, hisz, ← Nat.add_mul]; exact hfit0
   have hrun := run_append_room' (P := P) w t ty e i ht h1 b0 len cap0 cur e' hh (at' b o') 1 1 _ hl hnews one hroom hfit
   rw [hisz] at hrun
   have hcont : ∀ k, k < (len + 1) * sz → (cur.toList.take (len * sz) ++ (cellList 1 sz fun _ j => u j) ++ cur.toList.drop (len * sz + (cellList 1 sz fun _ j => u j).length)).toArray.getD k Go.undef = (cur.toList.take (len * sz) ++ cellList 1 sz fun _ j => u j).getD k Go.undef := fun k hk => by
    have hlk : k < (cur.toList.take (len * sz) ++ cellList 1 sz fun _ j => u j).length := by rw [List.length_append, holen, cellList_len, ← Nat.add_mul]; exact hk
    rw [← getD_toList]
    rw [List.getD_eq_getElem?_getD, List.getD_eq_getElem?_getD, List.getElem?_append_left hlk]
   refine ⟨_, b0, cap0, _, e', hrun, keeps_setRow h hb _, ?_, by rw [setRow_size]; exact Nat.le_refl _, fun i b m hi hβ => setRow_other w b0 b _ (fun e => by subst e; exact hi (h.inj i o _ _ _ hβ hb)), fun i p b m hβ => setRow_other w b0 b _ (fun e => by subst e; exact hoff i p m hβ), setRow_heap w b0 cur _ e' _ hh, ?_, hroom, by omega, fun j hj => ?_, fun hl0 => ?_, (h.names o b0 m0 hb).1, by rw [setRow_size]; exact (h.names o b0 m0 hb).2.1, (h.names o b0 m0 hb).2.2.1, fun i m hi hβ => hi (h.inj i o b0 _ _ hβ hb), hoff⟩
   ·exact h.below.trans ⟨rfl, rfl, rfl, by rw [setRow_size]; exact Nat.le_refl _, fun k hk' hno => setRow_other w b0 k _ (fun e => by subst e; rcases (h.names o k m0 hb).1 with h9 | h9 <;> first | omega | exact hno h9)⟩
   ·rw [cellList_len, hisz] at hfit
    simp only [List.size_toArray, List.length_append, List.length_take, List.length_drop, Array.length_toList, cellList_len]
    rw [← hcap.2] at hs
    omega
   ·rw [hcont _ (by rw [Nat.add_mul]; omega)]
    exact last _ holen j hj
   ·refine ⟨b0, m0, cur, e', hb, hlm, hh, fun k hk => ?_⟩
    rw [hcont k (by rw [Nat.add_mul]; omega), List.getD_eq_getElem?_getD, List.getElem?_append_left (by omega), ← List.getD_eq_getElem?_getD]
    exact hol k hk
  ·have holds : ∀ j v, (cur.toList.take (len * sz))[j]? = some v → w.cell? ((at' b0 0).add j) = some v := by
    intro j v hv
    rw [List.getElem?_take] at hv
    split at hv
    ·rw [show (at' b0 0).add j = at' b0 j from by rw [show (at' b0 0).add j = at' b0 (0 + j) from Addr.add_lit b0 0 j, Nat.zero_add]]
     have hjl := (List.getElem?_eq_some_iff.1 hv).1
     rw [cell_own hh (by simpa using hjl), ← getD_toList, List.getD_eq_getElem?_getD, hv]; rfl
    ·cases hv
   have hrun := run_append_grow (P := P) w t ty e i zv ht h1 h2 (at' b0 0) len cap0 _ (by rw [holen, hisz]) holds (at' b o') 1 1 _ hl hnews (by omega) (by omega) (growslice_fits (by omega) (by rw [hib]; exact hbytes))
   exact room0 _ holen cap0 (by omega) (fun _ => ⟨b0, m0, cur, e', hb, hlm, hh, hol⟩) hrun
 | os0 _ q hq =>
  simp only [Nat.zero_add, Nat.zero_mul] at *
  cases q with
  | none =>
   have hrun := run_append_nil (P := P) w t ty e i zv ht h1 h2 (at' b o') 1 1 _ hl hnews (by omega) (by omega) (by rw [hib]; omega)
   exact room0 [] (by simp) 0 (by omega) (fun hl0 => absurd rfl hl0) (by simpa using hrun)
  | some q =>
   have hrun := run_append_grow (P := P) w t ty e i zv ht h1 h2 q 0 0 [] (by simp) (by simp) (at' b o') 1 1 _ hl hnews (by omega) (by omega) (growslice_fits (by omega) (by rw [hib]; simpa using hbytes))
   exact room0 [] (by simp) 0 (by omega) (fun hl0 => absurd rfl hl0) (by simpa using hrun)
theorem VRep.away_flat {F : Frz} {w : World} {β β' : Bet} {o : Nat} (hr : ∀ i x, i ≠ o → β i = some x → β' i = some x) (hh : ∀ i q x, i ≠ o → β.h i q = some x → β'.h i q = some x) {d : D RT den} {v : Value} (h : VRep E F w β d v) (hn : d.nx o = false) : VRep E F w β' d v := by
 have ne : ∀ i, decide (o = i) = false → i ≠ o := fun i hi e => by subst e; simp at hi
 cases h with
 | ref o' off b m hb => exact .ref o' off b m (hr _ _ (ne _ hn) hb)
 | eref o' sz j off b m hb hj => exact .eref o' sz j off b m (hr _ _ (ne _ hn) hb) hj
 | os o' len cap b m hb hc hl => exact .os o' len cap b m (hr _ _ (ne _ hn) hb) hc hl
 | os0 o' a' k3 => exact .os0 o' a' k3
 | osn o' i j len cap b m hb hc hl => exact .osn o' i j len cap b m (hh _ _ _ (ne _ hn) hb) hc hl
 | osn0 o' i j a' k3 => exact .osn0 o' i j a' k3
 | osp o' sz off len cap b m hb hc hl => exact .osp o' sz off len cap b m (hr _ _ (ne _ hn) hb) hc hl
 | osp0 o' sz off a' k3 => exact .osp0 o' sz off a' k3
 | lit τ cs b o u k0 k1 k2 => simp [D.nx] at hn
 | fn f cap vs h1 h2 =>
  cases cap with
  | nil => exact .fn f [] vs h1 (fun j c hc => by simp at hc)
  | cons x l => simp [D.nx] at hn
 | agg cs vs h1 h2 => simp [D.nx] at hn
 | tup cs vs h1 h2 => simp [D.nx] at hn
 | int k n => exact .int k n
 | bool b => exact .bool b
 | str b => exact .str b
 | undef => exact .undef
 | q v => exact .q _
 | nil => exact .nil
 | emp z τ a' k1 k2 k3 => exact .emp z τ a' k1 k2 k3
 | rptr cs b o u k1 k2 => exact .rptr cs b o u k1 k2
 | rs z τ n f a' cap b o u k1 k2 k3 k4 k5 k6 k7 k8 => exact .rs z τ n f a' cap b o u k1 k2 k3 k4 k5 k6 k7 k8
theorem VRep.away1 {F : Frz} {w : World} {β β' : Bet} {o : Nat} (hr : ∀ i x, i ≠ o → β i = some x → β' i = some x) (hh : ∀ i q x, i ≠ o → β.h i q = some x → β'.h i q = some x) {d : D RT den} {v : Value} (h : VRep E F w β d v) (hn : d.nxc o = false) : VRep E F w β' d v := by
 by_cases ha : ∃ cs, d = .agg cs
 ·obtain ⟨cs, rfl⟩ := ha
  cases h with
  | agg _ vs h1 h2 =>
   simp only [D.nxc, List.any_eq_false] at hn
   exact .agg cs vs h1 (fun j c hc => (h2 j c hc).away_flat hr hh ((Bool.not_eq_true _).mp (hn c (getD_mem hc))))
 ·refine h.away_flat hr hh ?_
  cases d <;> first | exact hn | (exact absurd ⟨_, rfl⟩ ha)
theorem VRep.away {F : Frz} {w : World} {β β' : Bet} {o : Nat} (hr : ∀ i x, i ≠ o → β i = some x → β' i = some x) (hh : ∀ i q x, i ≠ o → β.h i q = some x → β'.h i q = some x) {d : D RT den} {v : Value} (h : VRep E F w β d v) (hn : d.nxs o = false) : VRep E F w β' d v := by
 by_cases ha : (∃ cs, d = .agg cs) ∨ (∃ τ cs, d = .lit τ cs) ∨ (∃ ds, d = .tup ds) ∨ ∃ f cap, d = .fn f cap
 ·rcases ha with ⟨cs, rfl⟩ | ⟨τ, cs, rfl⟩ | ⟨ds, rfl⟩ | ⟨f, cap, rfl⟩
  ·cases h with
   | agg _ vs h1 h2 =>
    simp only [D.nxs, List.any_eq_false] at hn
    exact .agg cs vs h1 (fun j c hc => (h2 j c hc).away_flat hr hh ((Bool.not_eq_true _).mp (hn c (getD_mem hc))))
  ·cases h with
   | lit _ _ b o' u k0 k1 k2 =>
    simp only [D.nxs, List.any_eq_false] at hn
    exact .lit τ cs b o' u k0 (fun j c hc => (k1 j c hc).away_flat hr hh ((Bool.not_eq_true _).mp (hn c (getD_mem hc)))) k2
  ·cases h with
   | tup _ vs h1 h2 =>
    cases ds with
    | nil => exact .tup [] vs h1 (fun j c hc => by simp at hc)
    | cons x l => simp [D.nxs] at hn
  ·cases h with
   | fn _ _ vs h1 h2 =>
    simp only [D.nxs, List.any_eq_false] at hn
    exact .fn f cap vs h1 (fun j c hc => (h2 j c hc).away1 hr hh ((Bool.not_eq_true _).mp (hn c (getD_mem hc))))
 ·refine h.away_flat hr hh ?_
  cases d <;> first | exact hn | (exact absurd (.inl ⟨_, rfl⟩) ha) | (exact absurd (.inr (.inl ⟨_, _, rfl⟩)) ha) | (exact absurd (.inr (.inr (.inl ⟨_, rfl⟩))) ha) | (exact absurd (.inr (.inr (.inr ⟨_, _, rfl⟩))) ha)
theorem absorbed_src {o : Nat} {os os1 : List (Ob RT den)} {cs told : List (D RT den)} (ha : Absorbed E o os cs told os1) :
  (∀ (i : Nat) (ob' : Ob RT den), os1[i]? = some ob' → os[i]? = some ob' ∨ ob' = .gone) ∧ (∀ (i : Nat) (ob' : Ob RT den), os[i]? = some ob' → (∀ τ n f, ob' ≠ .row false τ n f) → (∀ τ n p f, ob' ≠ .deep false τ n p f) → os1[i]? = some ob') ∧ os1[o]? = os[o]? := by
 obtain ⟨a1, a2, a3, a4, a5⟩ := ha
 refine ⟨fun i ob' hi => ?_, fun i ob' hi hn1 hn2 => ?_, a5 o (fun j o2 len hc => ?_)⟩
 ·by_cases hs : ∃ (j o2 len : Nat), cs[j]? = some (.os o2 len) ∧ o2 = i
  ·obtain ⟨j, o2, len, hc, rfl⟩ := hs
   rcases a3 j _ hc with ⟨o3, len3, e1, h1, h2, h3⟩ | ⟨z, τ, e1, _⟩ | ⟨e1, _⟩
   ·cases e1; rw [h2] at hi; cases hi; exact .inr rfl
   ·cases e1
   ·cases e1
  ·rw [a5 i (fun j o2 len hc e => hs ⟨j, o2, len, hc, e⟩)] at hi
   exact .inl hi
 ·rw [a5 i (fun j o2 len hc e => ?_)]
  ·exact hi
  ·subst e
   rcases a3 j _ hc with ⟨o3, len3, e1, h1, h2, ⟨τ, n, f, h3, _⟩ | ⟨τ, n, p, f, h3, _⟩⟩ | ⟨z, τ, e1, _⟩ | ⟨e1, _⟩
   ·cases e1; rw [h3] at hi; cases hi; exact hn1 _ _ _ rfl
   ·cases e1; rw [h3] at hi; cases hi; exact hn2 _ _ _ _ rfl
   ·cases e1
   ·cases e1
 ·rcases a3 j _ hc with ⟨o3, len3, e1, h1, h2, h3⟩ | ⟨z, τ, e1, _⟩ | ⟨e1, _⟩
  ·cases e1; exact h1
  ·cases e1
  ·cases e1
theorem takes_drep (hE : Ok E P) {ok : Nat → Prop} {F : Frz} {w w' : World} {β : Bet} {os os1 : List (Ob RT den)} (h : Hid E ok F β os w) (hobj : ∀ (o : Nat) ob, os[o]? = some ob → ∀ b m, β o = some (b, m) → ORep E F w β b m ob) {o len : Nat} {cs told : List (D RT den)} (ha : Absorbed E o os cs told os1)
  (hreal : ∀ (o2 : Nat) b m, o2 ≠ o → β o2 = some (b, m) → w'.heap[b]? = w.heap[b]?) (hhid : ∀ o2 p b m, β.h o2 p = some (b, m) → w'.heap[b]? = w.heap[b]?) {τ : RT} {f : Nat → den τ} {y : den τ} (hy : E.cells τ y = told) {u : Nat → Value} (hu : ∀ (j : Nat) c, cs[j]? = some c → VRep E F w β c (u j)) {sr : Nat → Option (Nat × Nat)} (hsr : Srcs β cs u sr)
  {bb cap' : Nat} {cur' : Array Value} {e' : TypeId} (r1 : w'.heap[bb]? = some (.cells cur' e' (0, 0))) (r2 : cur'.size = cap' * E.size τ) (r3 : len + 1 ≤ cap') (r4 : cap' ≤ 9223372036854775807) (r5 : ∀ j, j < E.size τ → cur'.getD (len * E.size τ + j) Go.undef = u j)
  (hold : ∀ i j c, i < len → (E.cells τ (f i))[j]? = some c → TRep E w (β.h o) [i, j] c (cur'.getD (i * E.size τ + j) Go.undef)) :
  DRep E F w' (β.takes o len 0 sr o) bb (len + 1, cap') τ (len + 1) (len + 1) (fun i => if i < len then f i else y) := by
 refine ⟨rfl, ⟨r3, r4⟩, Nat.le_refl _, cur', e', r1, r2, fun i j c hi hc => ⟨fun _ => ?_, fun hp => absurd hp (by omega)⟩⟩
 dsimp only at hc
 by_cases hil : i < len
 ·rw [if_pos hil] at hc
  exact (hold i j c hil hc).move (fun q => takes_old hil) (fun q b2 m2 hx => hhid o _ b2 m2 hx)
 ·rw [if_neg hil, hy] at hc
  have hi : i = len := by omega
  subst hi
  have hj : j < E.size τ := by rw [← hE.size τ y, hy]; exact (List.getElem?_eq_some_iff.1 hc).1
  rw [r5 j hj]
  obtain ⟨c0, hc0⟩ : ∃ c0, cs[j]? = some c0 := ⟨_, List.getElem?_eq_getElem (by rw [← ha.1]; exact (List.getElem?_eq_some_iff.1 hc).1)⟩
  have hj : [i, j] = [i, 0 + j] := by rw [Nat.zero_add]
  rw [hj]
  exact takes_rep (i := i) (off := 0) hE h hobj ha hreal hhid hsr hc0 hc (hu j c0 hc0)
theorem appendD_wp (hE : Ok E P) {F0 : Was} {w0 : World} {F : Frz} {β : Bet} {s : St RT den} {a : Act} {w : World} (h : Rel E F0 w0 F β s a w) {dst : Option Tmp} {ty : TypeId} {pos : String} {after : Array Edge} {guard : Option (Nat × Bool)}
  {args : Array Operand} {argTypes : Array TypeId} {xo yo : Operand} {t e by' z o len n p : Nat} {τ : RT} {f : Nat → den τ} {zc cs told : List (D RT den)} {os1 : List (Ob RT den)} {y : den τ}
  (hvic : victim E s (Op.call ⟨.builtin .append, args, argTypes⟩) = some o) (hxs : args.toList = [xo, yo]) (hts : argTypes.toList = [t, t]) (he : E.elem t = some e) (hby : E.bytes e = some by') (hzc : E.zero e = some zc) (hz : E.sz e = some z)
  (hx : VRep E F w β (.os o len) (a.eval xo)) (hy : VRep E F w β (.lit τ cs) (a.eval yo)) (hob : obj s.objs o = .deep false τ n p f)
  (hboxes : clear o s.objs = true) (hzs : z = E.size τ) (hz0 : 0 < z) (habs : absorb E o s.objs cs = some (true, told, os1)) (hdec : E.dec τ told = some y) (hlp : len ≤ p) (hmax : len + 1 ≤ 9223372036854775807) (hbytes : (len + 1) * by' ≤ 140737488355328)
  {K : Act → World → Prop} {Q : Exit → Act → World → Prop}
  (next : ∀ F' β' v w', Rel E F0 w0 F' β' (({ s with objs := (os1.set o (.deep false τ (len + 1) (len + 1) fun i => if i < len then f i else y)).map (Ob.kill o) } : St RT den).kill (victim E s (Op.call ⟨.builtin .append, args, argTypes⟩))) a w' →
   VRep E F' w' β' (.os o (len + 1)) v → (∀ i, i < s.objs.length → β i = none → (∃ cs, s.objs[i]? = some (.box false cs) ∧ cs.all D.pure = true) → β' i = none ∧ ((os1.set o (.deep false τ (len + 1) (len + 1) fun i => if i < len then f i else y)).map (Ob.kill o))[i]? = s.objs[i]?) → K (a.put dst v) w') :
  Oper.wp P ⟨dst, .call ⟨.builtin .append, args, argTypes⟩, ty, pos, after, guard⟩ a w K Q := by
 rw [hvic] at next
 obtain rfl : args = #[xo, yo] := Array.ext' hxs
 obtain rfl : argTypes = #[t, t] := Array.ext' hts
 subst hzs
 have hoo := obj_some hob (by simp)
 have hlt : o < s.objs.length := (List.getElem?_eq_some_iff.1 hoo).1
 have hlive : s.objs[o]? ≠ some .gone := by rw [hoo]; simp
 obtain ⟨i, zv, h1, h2, h3, h4, h5, h6⟩ := zero_rep hE hzc
 have hisz : i.size = E.size τ := by have := hE.sz e _ hz; simpa [h1] using this
 have hib : i.bytes = by' := by have := hE.bytes e by' hby; simpa [h1] using this
 have hzv : zv.cells.size = E.size τ := by rw [h3, ← h4, hisz]
 have ha := absorb_spec habs
 obtain ⟨s1, s2, s3⟩ := absorbed_src ha
 have hyc := hE.dec τ _ y hdec
 generalize hvx : a.eval xo = vx at hx
 generalize hvy : a.eval yo = vy at hy
 cases hy with
 | lit _ _ b o' u k0 k1 k2 =>
 have hflat : ∀ (j : Nat) (c : D RT den), cs[j]? = some c → c.flat = true := by
  intro j c hc
  obtain ⟨a1, a2, a3, a4, a5⟩ := ha
  rcases a3 j c hc with ⟨o3, len3, rfl, _⟩ | ⟨z, τ, rfl, _⟩ | ⟨e1, _⟩
  ·rfl
  ·rfl
  ·cases c <;> first | rfl | cases e1
 have hrow : ∀ b0 m0, β o = some (b0, m0) → m0.1 ≤ m0.2 ∧ m0.2 ≤ 9223372036854775807 ∧ ∃ cur e', w.heap[b0]? = some (.cells cur e' (0, 0)) ∧ cur.size = m0.2 * E.size τ := by
  intro b0 m0 hb
  obtain ⟨hmn, ⟨hm1, hm2⟩, hpn, cur, e, hh, hsz, _⟩ := h.hid.reps o _ τ n p f hoo b0 m0 hb
  exact ⟨by omega, hm2, cur, e, hh, hsz⟩
 obtain ⟨w', bb, cap', cur', e', hrun, hkp, hbel, hsz, hoth, hhid, r1, r2, r3, r4, r5, r6, r7, r8, r9, r10, r11⟩ := append_sem (ty := ty) h (hE.elem t e he) h1 h2 hisz hib hzv hz0 (fun j hj => (k2 j (by omega)).2) (fun j hj => (k1 j cs[j] (List.getElem?_eq_getElem (by omega))).oneCell (hflat j _ (List.getElem?_eq_getElem (by omega)))) hx hrow hlive hmax hbytes
 obtain ⟨sr, hsr⟩ := srcs_of (u := u) k1
 have hdrep := takes_drep (len := len) (w' := w') (f := f) hE h.hid h.objs ha hoth hhid hyc k1 hsr r1 r2 r3 r4 r5 (fun i j c hi hc => by
  obtain ⟨b0, m0, cur0, e0, q1, q2, q3, q4⟩ := r6 (by omega)
  obtain ⟨hmn, ⟨hm1, hm2⟩, hpn, cur, e, hh, hsz, hr⟩ := h.hid.reps o _ τ n p f hoo b0 m0 q1
  rw [hh] at q3; cases q3
  have hj : j < E.size τ := by rw [← hE.size τ (f i)]; exact (List.getElem?_eq_some_iff.1 hc).1
  have : (i + 1) * E.size τ ≤ len * E.size τ := Nat.mul_le_mul_right _ hi
  rw [Nat.add_mul, Nat.one_mul] at this
  rw [q4 _ (by omega)]
  exact (hr i j c (by omega) hc).1 (by omega))
 let β' : Bet := ⟨fun i => if i = o then some (bb, (len + 1, cap')) else β i, β.takes o len 0 sr⟩
 have hβo : β' o = some (bb, (len + 1, cap')) := by show (if o = o then _ else _) = _; rw [if_pos rfl]
 have hβne : ∀ i, i ≠ o → β' i = β i := fun i hi => by show (if i = o then _ else _) = _; rw [if_neg hi]
 have away : ∀ {d : D RT den} {v : Value}, VRep E F w β d v → d.nxs o = false → VRep E F w' β' d v := fun hv hn =>
  (hv.away (fun i x hi hx => by rw [hβne i hi]; exact hx) (fun i q x hi hx => by show β.takes o len 0 sr i q = _; rw [takes_ne hi]; exact hx) hn).mono (fun _ _ h => h) hkp (Bet.le_refl _)
 refine wp_value' (v := .slice (some (at' bb 0)) (len + 1) cap') (w' := w') (by simp [execOp, resolve, invoke, builtin, hvx, hvy, hrun])
  (next F β' _ _ ?_ (.os o (len + 1) cap' bb (len + 1, cap') hβo ⟨r3, rfl⟩ (Nat.le_refl _)) (fun i hi hn hbx => ?_))
 ·have hgetne : ∀ (i : Nat) (ob : Ob RT den), i ≠ o → ((os1.set o (.deep false τ (len + 1) (len + 1) fun i => if i < len then f i else y)).map (Ob.kill o))[i]? = some ob → ∃ ob0, os1[i]? = some ob0 ∧ ob = ob0.kill o := by
   intro i ob hi h9
   obtain ⟨ob0, h9, e0⟩ := kill_get h9
   rw [List.getElem?_set_ne (Ne.symm hi)] at h9
   exact ⟨ob0, h9, e0⟩
  have hmk : ∀ (i : Nat) (ob : Ob RT den), i ≠ o → os1[i]? = some ob → ((os1.set o (.deep false τ (len + 1) (len + 1) fun i => if i < len then f i else y)).map (Ob.kill o))[i]? = some (ob.kill o) := by
   intro i ob hi h9
   rw [List.getElem?_map, List.getElem?_set_ne (Ne.symm hi), h9]; rfl
  refine ⟨h.defers, by simp [St.kill, h.size], fun i d hd => ?_, fun i ob' hi b' m hb => ?_, fun i b' m hb => ?_, fun i j b' m1 m2 hi hj => ?_, hbel, fun b' off hf => Nat.lt_of_lt_of_le (h.frz b' off hf) hsz, h.frz1, h.frz2, fun o2 hy => ?_, fun o2 hy => ?_, ?_⟩
  ·simp only [St.kill, List.getElem?_map] at hd
   cases hq : s.slots[i]? with
   | none => simp [hq] at hd
   | some d' =>
    simp only [hq, Option.map_some, Option.some.injEq] at hd
    cases hn : d'.nxs o with
    | true => rw [hn] at hd; simp only [cond_true] at hd; subst hd; exact .q _
    | false =>
     rw [hn] at hd; simp only [cond_false] at hd; subst hd
     exact away (h.slots i d' hq) hn
  ·simp only [St.kill] at hi
   by_cases hio : i = o
   ·subst hio
    obtain ⟨ob0, h9, e0⟩ := kill_get hi
    simp [ha.2.1, hlt] at h9
    subst h9; subst e0; trivial
   ·obtain ⟨ob0, h9, rfl⟩ := hgetne i ob' hio hi
    rw [hβne i hio] at hb
    rcases s1 i ob0 h9 with h9 | rfl
    ·have hold := h.objs i ob0 h9 b' m hb
     have hblk := hoth i b' m hio hb
     cases ob0 with
     | box lb cs' =>
      obtain ⟨cur, e, hh, hs, hr'⟩ := hold
      refine ⟨cur, e, by rw [hblk]; exact hh, by simpa using hs, fun j c hc => ?_⟩
      rw [List.getElem?_map] at hc
      cases hq : cs'[j]? with
      | none => rw [hq] at hc; cases hc
      | some d =>
       rw [hq] at hc
       have hc := Option.some.inj hc; subst hc
       unfold clear at hboxes
       rw [List.all_eq_true] at hboxes
       have := hboxes _ (List.mem_of_getElem? h9)
       dsimp only at this
       rw [List.all_eq_true] at this
       have := this d (List.mem_of_getElem? hq)
       simp only [Bool.or_eq_true, Bool.not_eq_true'] at this
       unfold D.kill1
       cases hnx : d.nx o with
       | false =>
        simp only [Bool.and_false, cond_false]
        exact ((hr' j d hq).away_flat (fun i x hi hx => by rw [hβne i hi]; exact hx) (fun i q x hi hx => by show β.takes o len 0 sr i q = _; rw [takes_ne hi]; exact hx) hnx).mono (fun _ _ h => h) hkp (Bet.le_refl _)
       | true =>
        rcases this with h8 | h8
        ·rw [hnx] at h8; cases h8
        ·simp only [h8, Bool.and_self, cond_true]; exact .q _
     | row l τ n f =>
      obtain ⟨hm, hm1, cur, e, hh, hs, hr'⟩ := hold
      exact ⟨hm, hm1, cur, e, by rw [hblk]; exact hh, hs, fun i j c hi hc => (hr' i j c hi hc).mono (fun _ _ h => h) hkp (Bet.le_refl _)⟩
     | deep => trivial
     | gone => trivial
    ·trivial
  ·simp only [St.kill, List.length_map, List.length_set, ha.2.1]
   by_cases hio : i = o
   ·subst hio
    rw [hβo] at hb; cases hb
    exact ⟨r7, r8, r9, hlt⟩
   ·rw [hβne i hio] at hb
    obtain ⟨h1, h2, h3, h4⟩ := h.names i b' m hb
    exact ⟨h1, Nat.lt_of_lt_of_le h2 hsz, h3, h4⟩
  ·by_cases e1 : i = o <;> by_cases e2 : j = o
   ·rw [e1, e2]
   ·subst e1; rw [hβo] at hi; cases hi; rw [hβne j e2] at hj; exact absurd hj (r10 _ _ e2)
   ·subst e2; rw [hβo] at hj; cases hj; rw [hβne i e1] at hi; exact absurd hi (r10 _ _ e1)
   ·rw [hβne i e1] at hi; rw [hβne j e2] at hj; exact h.inj i j b' m1 m2 hi hj
  ·obtain ⟨h1, ob', h2, h3⟩ := h.place o2 hy
   have hne : o2 ≠ o := fun e => by subst e; rw [hoo] at h2; cases h2; cases h3
   refine ⟨by rw [hβne o2 hne]; exact h1, ob'.kill o, hmk o2 ob' hne (s2 o2 ob' h2 (fun _ _ _ e => by subst e; cases h3) (fun _ _ _ _ e => by subst e; cases h3)), by cases ob' <;> exact h3⟩
  ·obtain ⟨h1, ob', h2, h3⟩ := h.place o2 hy
   have hne : o2 ≠ o := fun e => by subst e; rw [hoo] at h2; cases h2; cases h3
   rw [← h.placeH o2 hy]
   funext q
   exact takes_ne hne
  ·refine hid_takes (l := false) (τ := τ) (n := len + 1) (p := len + 1) (f := fun i => if i < len then f i else y) h.hid h.inj (fun o b m hβ => h.names o b m hβ) ha hlive hkp hsz (by simp [St.kill, ha.2.1]) (by simp [St.kill, ha.2.1]; exact hlt) (fun k o2 len h => (hsr.1 k o2 len h).1) rfl hβne (fun b' m' hb' => ?_) (fun i ob' hne hi hd => ?_) (fun i l' τ' n' p' f' hne hi => ?_) ?_ (Nat.lt_succ_self len) (fun i' r x hx hlt => by omega) hoth hhid ⟨_, hβo⟩ (fun b' m' hb' => ?_)
   ·rw [hβo] at hb'; cases hb'
    exact ⟨r11, r10⟩
   ·have := hmk i ob' hne hi
    have e : ob'.kill o = ob' := by cases ob' <;> first | rfl | cases hd
    rw [e] at this; exact this
   ·obtain ⟨ob0, h9, e0⟩ := hgetne i _ hne hi
    have e1 : ob0 = .deep l' τ' n' p' f' := by cases ob0 <;> first | (simpa [Ob.kill] using e0.symm) | cases e0
    rw [← e1]; exact h9
   ·show ((os1.set o _).map (Ob.kill o))[o]? = _
    rw [List.getElem?_map]
    simp [ha.2.1, hlt, Ob.kill]
   ·rw [hβo] at hb'; cases hb'
    exact hdrep
 ·obtain ⟨cs', hcs, hpu⟩ := hbx
  have hne : i ≠ o := by
   intro e
   subst e
   rw [hoo] at hcs
   cases hcs
  refine ⟨by rw [hβne i hne]; exact hn, ?_⟩
  rw [hcs]
  exact kill_pure (by rw [List.getElem?_set_ne (Ne.symm hne)]; exact s2 i _ hcs (fun _ _ _ e => by cases e) (fun _ _ _ _ e => by cases e)) hpu
theorem appendD_emp_wp (hE : Ok E P) {F0 : Was} {w0 : World} {F : Frz} {β : Bet} {s : St RT den} {a : Act} {w : World} (h : Rel E F0 w0 F β s a w) {dst : Option Tmp} {ty : TypeId} {pos : String} {after : Array Edge} {guard : Option (Nat × Bool)}
  {args : Array Operand} {argTypes : Array TypeId} {xo yo : Operand} {t e by' z : Nat} {τ τ' : RT} {zc cs told : List (D RT den)} {os1 : List (Ob RT den)} {y : den τ} {z0 : Bool}
  (hvic : victim E s (Op.call ⟨.builtin .append, args, argTypes⟩) = none) (hxs : args.toList = [xo, yo]) (hts : argTypes.toList = [t, t]) (he : E.elem t = some e) (hby : E.bytes e = some by') (hzc : E.zero e = some zc) (hz : E.sz e = some z)
  (hx : VRep E F w β (.emp z0 τ') (a.eval xo)) (hy : VRep E F w β (.lit τ cs) (a.eval yo)) (hzs : z = E.size τ) (hz0 : 0 < z) (habs : absorb E s.objs.length s.objs cs = some (true, told, os1)) (hdec : E.dec τ told = some y) (hbytes : 1 * by' ≤ 140737488355328)
  {K : Act → World → Prop} {Q : Exit → Act → World → Prop}
  (next : ∀ F' β' v w', Rel E F0 w0 F' β' (({ s with objs := os1 ++ [.deep false τ 1 1 fun _ => y] } : St RT den).kill (victim E s (Op.call ⟨.builtin .append, args, argTypes⟩))) a w' →
   VRep E F' w' β' (.os s.objs.length 1) v → (∀ i, i < s.objs.length → β i = none → (∃ cs, s.objs[i]? = some (.box false cs) ∧ cs.all D.pure = true) → β' i = none ∧ (os1 ++ [.deep false τ 1 1 fun _ => y])[i]? = s.objs[i]?) → K (a.put dst v) w') :
  Oper.wp P ⟨dst, .call ⟨.builtin .append, args, argTypes⟩, ty, pos, after, guard⟩ a w K Q := by
 rw [hvic] at next
 obtain rfl : args = #[xo, yo] := Array.ext' hxs
 obtain rfl : argTypes = #[t, t] := Array.ext' hts
 subst hzs
 have hnone : s.objs[s.objs.length]? = none := List.getElem?_eq_none (Nat.le_refl _)
 have hlive : s.objs[s.objs.length]? ≠ some .gone := by rw [hnone]; simp
 obtain ⟨i, zv, h1, h2, h3, h4, h5, h6⟩ := zero_rep hE hzc
 have hisz : i.size = E.size τ := by have := hE.sz e _ hz; simpa [h1] using this
 have hib : i.bytes = by' := by have := hE.bytes e by' hby; simpa [h1] using this
 have hzv : zv.cells.size = E.size τ := by rw [h3, ← h4, hisz]
 have ha := absorb_spec habs
 obtain ⟨s1, s2, s3⟩ := absorbed_src ha
 have hyc := hE.dec τ _ y hdec
 have hlast := h.last
 generalize hvx : a.eval xo = vx at hx
 generalize hvy : a.eval yo = vy at hy
 cases hx with
 | emp _ _ q q1 q2 q3 =>
 cases hy with
 | lit _ _ b o' u k0 k1 k2 =>
 have hflat : ∀ (j : Nat) (c : D RT den), cs[j]? = some c → c.flat = true := by
  intro j c hc
  obtain ⟨a1, a2, a3, a4, a5⟩ := ha
  rcases a3 j c hc with ⟨o3, len3, rfl, _⟩ | ⟨z, τ, rfl, _⟩ | ⟨e1, _⟩
  ·rfl
  ·rfl
  ·cases c <;> first | rfl | cases e1
 obtain ⟨w', bb, cap', cur', e', hrun, hkp, hbel, hsz, hoth, hhid, r1, r2, r3, r4, r5, r6, r7, r8, r9, r10, r11⟩ := append_sem (ty := ty) (o := s.objs.length) (len := 0) (vx := .slice q 0 0) h (hE.elem t e he) h1 h2 hisz hib hzv hz0 (fun j hj => (k2 j (by omega)).2) (fun j hj => (k1 j cs[j] (List.getElem?_eq_getElem (by omega))).oneCell (hflat j _ (List.getElem?_eq_getElem (by omega)))) (VRep.os0 (E := E) _ q q3) (fun b0 m0 hb => by rw [hlast] at hb; cases hb) hlive (by omega) (by simpa using hbytes)
 obtain ⟨sr, hsr⟩ := srcs_of (u := u) k1
 have hdrep := takes_drep (len := 0) (w' := w') (f := fun _ => y) hE h.hid h.objs ha hoth hhid hyc k1 hsr r1 r2 r3 r4 r5 (fun i j c hi hc => absurd hi (Nat.not_lt_zero _))
 simp only [Nat.not_lt_zero, if_false] at hdrep
 let β' : Bet := ⟨fun i => if i = s.objs.length then some (bb, (0 + 1, cap')) else β i, β.takes s.objs.length 0 0 sr⟩
 have hβo : β' s.objs.length = some (bb, (0 + 1, cap')) := by show (if s.objs.length = s.objs.length then _ else _) = _; rw [if_pos rfl]
 have hβne : ∀ i, i ≠ s.objs.length → β' i = β i := fun i hi => by show (if i = s.objs.length then _ else _) = _; rw [if_neg hi]
 have hle : β.le β' := ⟨fun i x hx => by rw [hβne i (fun e => by subst e; rw [hlast] at hx; cases hx)]; exact hx, fun i q x hx => by
  show β.takes s.objs.length 0 0 sr i q = _
  rw [takes_ne (fun e => by subst e; have := (h.hid.names _ q x.1 x.2 hx).2.2; omega)]; exact hx⟩
 refine wp_value' (v := .slice (some (at' bb 0)) (0 + 1) cap') (w' := w') (by simp only [execOp, resolve, invoke, builtin, Array.map, hvx, hvy]; simp [hvx, hvy, hrun])
  (next F β' _ _ ?_ (.os _ (0 + 1) cap' bb (0 + 1, cap') hβo ⟨r3, rfl⟩ (Nat.le_refl _)) (fun i hi hn hbx => ?_))
 ·have hlt1 : ∀ i, i < s.objs.length → (os1 ++ [Ob.deep false τ 1 1 fun _ => y])[i]? = os1[i]? := fun i hi => List.getElem?_append_left (by rw [ha.2.1]; exact hi)
  have hat : (os1 ++ [Ob.deep false τ 1 1 fun _ => y])[s.objs.length]? = some (Ob.deep false τ 1 1 fun _ => y) := by rw [← ha.2.1]; simp
  have hge : ∀ (i : Nat) (ob : Ob RT den), i ≠ s.objs.length → (os1 ++ [Ob.deep false τ 1 1 fun _ => y])[i]? = some ob → os1[i]? = some ob ∧ i < s.objs.length := by
   intro i ob hi h9
   have : i < s.objs.length := by
    have := (List.getElem?_eq_some_iff.1 h9).1
    simp [ha.2.1] at this; omega
   rw [hlt1 i this] at h9
   exact ⟨h9, this⟩
  refine ⟨h.defers, h.size, fun i d hd => (h.slots i d hd).mono (fun _ _ h => h) hkp hle, fun i ob' hi b' m hb => ?_, fun i b' m hb => ?_, fun i j b' m1 m2 hi hj => ?_, hbel, fun b' off hf => Nat.lt_of_lt_of_le (h.frz b' off hf) hsz, h.frz1, h.frz2, fun o2 hy => ?_, fun o2 hy => ?_, ?_⟩
  ·have hi : (os1 ++ [Ob.deep false τ 1 1 fun _ => y])[i]? = some ob' := hi
   by_cases hio : i = s.objs.length
   ·subst hio
    rw [hat] at hi; cases hi; trivial
   ·obtain ⟨h9, _⟩ := hge i ob' hio hi
    rw [hβne i hio] at hb
    rcases s1 i ob' h9 with h9 | rfl
    ·exact (h.objs i ob' h9 b' m hb).mono (fun _ _ h => h) hkp (hoth i b' m hio hb) hle
    ·trivial
  ·show _ ∧ _ ∧ _ ∧ i < (os1 ++ [Ob.deep false τ 1 1 fun _ => y]).length
   by_cases hio : i = s.objs.length
   ·rw [hio, hβo] at hb; cases hb
    exact ⟨r7, r8, r9, by simp [ha.2.1]; omega⟩
   ·rw [hβne i hio] at hb
    obtain ⟨h1, h2, h3, h4⟩ := h.names i b' m hb
    exact ⟨h1, Nat.lt_of_lt_of_le h2 hsz, h3, by simp [ha.2.1]; omega⟩
  ·by_cases e1 : i = s.objs.length <;> by_cases e2 : j = s.objs.length
   ·rw [e1, e2]
   ·rw [e1, hβo] at hi; cases hi; rw [hβne j e2] at hj; exact absurd hj (r10 _ _ e2)
   ·rw [e2, hβo] at hj; cases hj; rw [hβne i e1] at hi; exact absurd hi (r10 _ _ e1)
   ·rw [hβne i e1] at hi; rw [hβne j e2] at hj; exact h.inj i j b' m1 m2 hi hj
  ·obtain ⟨h1, ob', h2, h3⟩ := h.place o2 hy
   have hlt := (List.getElem?_eq_some_iff.1 h2).1
   refine ⟨by rw [hβne o2 (by omega)]; exact h1, ob', ?_, h3⟩
   show (os1 ++ [Ob.deep false τ 1 1 fun _ => y])[o2]? = _
   rw [hlt1 o2 hlt]
   exact s2 o2 ob' h2 (fun _ _ _ e => by subst e; cases h3) (fun _ _ _ _ e => by subst e; cases h3)
  ·obtain ⟨h1, ob', h2, h3⟩ := h.place o2 hy
   have hlt := (List.getElem?_eq_some_iff.1 h2).1
   rw [← h.placeH o2 hy]
   funext q
   exact takes_ne (by omega)
  ·refine hid_takes (l := false) (τ := τ) (n := 1) (p := 1) (f := fun _ => y) h.hid h.inj (fun o b m hβ => h.names o b m hβ) ha hlive hkp hsz (by simp [St.kill, ha.2.1]) (by simp [St.kill, ha.2.1]) (fun k o2 len h => (hsr.1 k o2 len h).1) rfl hβne (fun b' m' hb' => ?_) (fun i ob' hne hi hd => ?_) (fun i l' τ' n' p' f' hne hi => (hge i _ hne hi).1) hat (Nat.lt_succ_self 0) (fun i' r x hx hlt => by omega) hoth hhid ⟨_, hβo⟩ (fun b' m' hb' => ?_)
   ·rw [hβo] at hb'; cases hb'
    exact ⟨r11, r10⟩
   ·have : i < os1.length := (List.getElem?_eq_some_iff.1 hi).1
    show (os1 ++ [Ob.deep false τ 1 1 fun _ => y])[i]? = _
    rw [hlt1 i (by rw [← ha.2.1]; exact this)]; exact hi
   ·rw [hβo] at hb'; cases hb'
    exact hdrep
 ·obtain ⟨cs', hcs, hpu⟩ := hbx
  refine ⟨by rw [hβne i (by omega)]; exact hn, ?_⟩
  rw [List.getElem?_append_left (by rw [ha.2.1]; exact hi), hcs]
  exact s2 i _ hcs (fun _ _ _ e => by cases e) (fun _ _ _ _ e => by cases e)
end Go.Proofs.Ytjdgfkmiaikegaa.Vm

