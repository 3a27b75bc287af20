
/- The value machine: functions that hand over own rows, and functions that turn rows lent to them. Conditions: none. -/
import Derived.Test.YtcmfekgdlaffkaaVmM
namespace Go.Proofs.Ytcmfekgdlaffkaa.Vm
open Go Go.RowKit
set_option linter.unusedVariables false
set_option linter.unusedSimpArgs false
variable {RT : Type} {den : RT → Type} {E : Env RT den} {P : Program} {ke : Bool}
def handC (E : Env RT den) (ke : Bool) (p : Nat) (os : List (Ob RT den)) : List (D RT den) → Nat → Option (List (D RT den) × List (Ob RT den) × List (Option (Nat × Nat)))
 | [], _ => some ([], [], [])
 | c :: cs, k => match c with
  | .os o len => bif decide (o < p) then none else (match obj os o with
   | .row false τ n f => (handC E ke p os cs (k + 1)).bind fun x => some (.os k len :: x.1, .row false τ len f :: x.2.1, some (o, len) :: x.2.2)
   | _ => none)
  | .emp z τ => bif E.scl τ && !ke then (handC E ke p os cs (k + 1)).bind fun x => some (.os k 0 :: x.1, (.row false τ 0 fun _ => E.dflt τ) :: x.2.1, none :: x.2.2)
   else (handC E ke p os cs k).bind fun x => some (.emp z τ :: x.1, x.2.1, x.2.2)
  | c => bif c.sc then (handC E ke p os cs k).bind fun x => some (c :: x.1, x.2.1, x.2.2) else none
def nodupB : List (Option (Nat × Nat)) → Bool
 | [] => true
 | x :: l => (match x with | none => true | some y => l.all fun z => match z with | none => true | some z => !decide (z.1 = y.1)) && nodupB l
def hand (E : Env RT den) (ke : Bool) (p : Nat) (os : List (Ob RT den)) (d : D RT den) : Option (D RT den × List (Ob RT den)) :=
 match d with
 | .agg cs => (handC E ke p os cs p).bind fun x => bif nodupB x.2.2 then some (.agg x.1, os.take p ++ x.2.1) else none
 | d => (handC E ke p os [d] p).bind fun x => bif nodupB x.2.2 then (match x.1 with | [d'] => some (d', os.take p ++ x.2.1) | _ => none) else none
def handB (p : Nat) (b0 β : Bet) (src : List (Option (Nat × Nat))) : Bet := ⟨fun i => if i < p then b0 i else match src[i - p]? with
 | some (some s) => (β s.1).map fun x => (x.1, (s.2, x.2.2))
 | _ => none, fun _ _ => none⟩
theorem handB_r (p : Nat) (b0 β : Bet) (src : List (Option (Nat × Nat))) (i : Nat) : (handB p b0 β src) i = if i < p then b0 i else match src[i - p]? with
 | some (some s) => (β s.1).map fun x => (x.1, (s.2, x.2.2))
 | _ => none := rfl
theorem hid_flat {ok : Nat → Prop} {F : Frz} {w : World} {β : Bet} {os : List (Ob RT den)} (h1 : ∀ o q, β.h o q = none) (h2 : ∀ (o : Nat) (ob : Ob RT den), os[o]? = some ob → ob.dg = false) : Hid E ok F β os w :=
 ⟨fun o q _ _ h => (by rw [h1] at h; cases h), fun o q _ _ h => (by rw [h1] at h; cases h), fun o q _ _ _ _ h => (by rw [h1] at h; cases h), fun o q _ _ _ _ _ h => (by rw [h1] at h; cases h), fun o q _ h => (by rw [h1] at h; cases h), fun o l τ n p f h => (by have := h2 o _ h; cases this)⟩
theorem handC_len {p : Nat} {os : List (Ob RT den)} : ∀ {cs : List (D RT den)} {k : Nat} {x}, handC E ke p os cs k = some x → x.1.length = cs.length ∧ x.2.1.length = x.2.2.length
 | [], k, x, h => by simp only [handC, Option.some.injEq] at h; subst h; exact ⟨rfl, rfl⟩
 | c :: cs, k, x, h => by
  cases c <;> simp only [handC] at h <;> first
   | (cases hq : decide (_ < p) <;> rw [hq] at h <;> simp only [cond_true, cond_false, reduceCtorEq] at h; split at h <;> first | (simp only [Option.bind_eq_some_iff] at h; obtain ⟨y, hy, h⟩ := h; have h := Option.some.inj h; subst h; have := handC_len hy; simp [this.1, this.2]) | (cases h))
   | (simp only [Option.bind_eq_some_iff] at h; obtain ⟨y, hy, h⟩ := h; have h := Option.some.inj h; subst h; have := handC_len hy; simp [this.1, this.2])
   | (rw [Bool.cond_eq_ite] at h; split at h <;> (simp only [Option.bind_eq_some_iff] at h; obtain ⟨y, hy, h⟩ := h; have h := Option.some.inj h; subst h; have := handC_len hy; simp [this.1, this.2]))
   | (rw [Bool.cond_eq_ite] at h; split at h <;> first | (simp only [Option.bind_eq_some_iff] at h; obtain ⟨y, hy, h⟩ := h; have h := Option.some.inj h; subst h; have := handC_len hy; simp [this.1, this.2]) | (cases h))
theorem handB_new {p k : Nat} {b0 β : Bet} {S : List (Option (Nat × Nat))} {o len b : Nat} {m : Nat × Nat} (hk : p ≤ k) (hS : S[k - p]? = some (some (o, len))) (hb : β o = some (b, m)) : handB p b0 β S k = some (b, (len, m.2)) := by
 rw [handB_r, if_neg (by omega), hS]
 simp [hb]
theorem handC_rep {F : Frz} {w : World} {β b0 : Bet} {p : Nat} {os : List (Ob RT den)} {S : List (Option (Nat × Nat))} : ∀ {cs : List (D RT den)} {k : Nat} {x : List (D RT den) × List (Ob RT den) × List (Option (Nat × Nat))}, p ≤ k → handC E ke p os cs k = some x →
  (∀ i y, x.2.2[i]? = some y → S[k - p + i]? = some y) → ∀ (j : Nat) (c' c : D RT den) (v : Value), x.1[j]? = some c' → cs[j]? = some c → VRep E F w β c v → VRep E F w (handB p b0 β S) c' v
 | [], k, x, hk, h, hS, j, c', c, v, hc', hc, hv => by simp at hc
 | c0 :: cs, k, x, hk, h, hS, j, c', c, v, hc', hc, hv => by
  have next : ∀ {d0 : D RT den} {ob : Ob RT den} {z : Option (Nat × Nat)} {y : List (D RT den) × List (Ob RT den) × List (Option (Nat × Nat))}, handC E ke p os cs (k + 1) = some y → x = (d0 :: y.1, ob :: y.2.1, z :: y.2.2) →
    (S[k - p]? = some z → VRep E F w β c0 v → j = 0 → VRep E F w (handB p b0 β S) d0 v) → VRep E F w (handB p b0 β S) c' v := by
   intro d0 ob z y hy e h0
   subst e
   cases j with
   | zero =>
    simp only [List.getElem?_cons_zero, Option.some.injEq] at hc' hc
    subst hc'; subst hc
    exact h0 (by have := hS 0 z (by simp); simpa using this) hv rfl
   | succ j =>
    simp only [List.getElem?_cons_succ] at hc' hc
    exact handC_rep (by omega) hy (fun i y' hi => by
     have := hS (i + 1) y' (by simpa using hi)
     rw [show k + 1 - p + i = k - p + (i + 1) by omega]
     exact this) j c' c v hc' hc hv
  have same : ∀ {y : List (D RT den) × List (Ob RT den) × List (Option (Nat × Nat))}, handC E ke p os cs k = some y → x = (c0 :: y.1, y.2.1, y.2.2) → (VRep E F w β c0 v → VRep E F w (handB p b0 β S) c0 v) → VRep E F w (handB p b0 β S) c' v := by
   intro y hy e h0
   subst e
   cases j with
   | zero =>
    simp only [List.getElem?_cons_zero, Option.some.injEq] at hc' hc
    subst hc'; subst hc
    exact h0 hv
   | succ j =>
    simp only [List.getElem?_cons_succ] at hc' hc
    exact handC_rep hk hy hS j c' c v hc' hc hv
  cases c0 with
  | os o len =>
   simp only [handC] at h
   cases hq : decide (o < p) <;> rw [hq] at h <;> simp only [cond_true, cond_false, reduceCtorEq] at h
   split at h
   ·simp only [Option.bind_eq_some_iff] at h
    obtain ⟨y, hy, h⟩ := h
    refine next hy (Option.some.inj h).symm (fun hz hv _ => ?_)
    cases hv with
    | os _ _ cap b m hb hcap hlm => exact .os k len cap b (len, m.2) (handB_new hk hz hb) ⟨hcap.1, hcap.2⟩ (Nat.le_refl _)
    | os0 _ a' k3 => exact .os0 k a' k3
   ·cases h
  | emp z τ =>
   simp only [handC] at h
   cases hsc : (E.scl τ && !ke) with
   | true =>
    rw [hsc] at h
    simp only [cond_true, Option.bind_eq_some_iff] at h
    obtain ⟨y, hy, h⟩ := h
    refine next hy (Option.some.inj h).symm (fun hz hv _ => ?_)
    cases hv with
    | emp _ _ a' k1 k2 k3 => exact .os0 k a' k3
   | false =>
    rw [hsc] at h
    simp only [cond_false, Option.bind_eq_some_iff] at h
    obtain ⟨y, hy, h⟩ := h
    exact same hy (Option.some.inj h).symm (fun hv => by
     cases hv with
     | emp _ _ a' k1 k2 k3 => exact .emp z τ a' k1 k2 k3)
  | int kd n =>
   simp only [handC, D.sc, cond_true, Option.bind_eq_some_iff] at h
   obtain ⟨y, hy, h⟩ := h
   exact same hy (Option.some.inj h).symm (fun hv => by cases hv; exact .int _ _)
  | bool b =>
   simp only [handC, D.sc, cond_true, Option.bind_eq_some_iff] at h
   obtain ⟨y, hy, h⟩ := h
   exact same hy (Option.some.inj h).symm (fun hv => by rw [hv.toBool]; exact .bool _)
  | str b =>
   simp only [handC, D.sc, cond_true, Option.bind_eq_some_iff] at h
   obtain ⟨y, hy, h⟩ := h
   exact same hy (Option.some.inj h).symm (fun hv => by cases hv; exact .str _)
  | _ => simp [handC, D.sc] at h
theorem handC_objs {F : Frz} {w : World} {β b0 : Bet} {p : Nat} {os : List (Ob RT den)} {S : List (Option (Nat × Nat))} (hobj : ∀ (o : Nat) ob, os[o]? = some ob → ∀ b m, β o = some (b, m) → ORep E F w β b m ob) :
  ∀ {cs : List (D RT den)} {k : Nat} {x : List (D RT den) × List (Ob RT den) × List (Option (Nat × Nat))}, p ≤ k → handC E ke p os cs k = some x → (∀ i y, x.2.2[i]? = some y → S[k - p + i]? = some y) → (∀ c ∈ cs, ∃ v, VRep E F w β c v) →
  ∀ (i : Nat) (ob : Ob RT den), x.2.1[i]? = some ob → ∀ b m, handB p b0 β S (k + i) = some (b, m) → ORep E F w (handB p b0 β S) b m ob
 | [], k, x, hk, h, hS, hv, i, ob, hob, b, m, hb => by simp only [handC, Option.some.injEq] at h; subst h; simp at hob
 | c0 :: cs, k, x, hk, h, hS, hv, i, ob, hob, b, m, hb => by
  have hv' : ∀ c ∈ cs, ∃ v, VRep E F w β c v := fun c hc => hv c (by simp [hc])
  have next : ∀ {d0 : D RT den} {ob0 : Ob RT den} {z : Option (Nat × Nat)} {y : List (D RT den) × List (Ob RT den) × List (Option (Nat × Nat))}, handC E ke p os cs (k + 1) = some y → x = (d0 :: y.1, ob0 :: y.2.1, z :: y.2.2) →
    (S[k - p]? = some z → ∀ b m, handB p b0 β S k = some (b, m) → ORep E F w (handB p b0 β S) b m ob0) → ORep E F w (handB p b0 β S) b m ob := by
   intro d0 ob0 z y hy e h0
   subst e
   cases i with
   | zero =>
    simp only [List.getElem?_cons_zero, Option.some.injEq] at hob
    subst hob
    exact h0 (by have := hS 0 z (by simp); simpa using this) b m hb
   | succ i =>
    simp only [List.getElem?_cons_succ] at hob
    exact handC_objs hobj (by omega) hy (fun i y' hi => by
     have := hS (i + 1) y' (by simpa using hi)
     rw [show k + 1 - p + i = k - p + (i + 1) by omega]
     exact this) hv' i ob hob b m (by rw [show k + 1 + i = k + (i + 1) by omega]; exact hb)
  have same : ∀ {y : List (D RT den) × List (Ob RT den) × List (Option (Nat × Nat))}, handC E ke p os cs k = some y → x = (c0 :: y.1, y.2.1, y.2.2) → ORep E F w (handB p b0 β S) b m ob := by
   intro y hy e
   subst e
   exact handC_objs hobj hk hy hS hv' i ob hob b m hb
  cases c0 with
  | os o len =>
   simp only [handC] at h
   cases hq : decide (o < p) <;> rw [hq] at h <;> simp only [cond_true, cond_false, reduceCtorEq] at h
   split at h
   ·rename_i τ n f hoo
    simp only [Option.bind_eq_some_iff] at h
    obtain ⟨y, hy, h⟩ := h
    refine next hy (Option.some.inj h).symm (fun hz b m hb => ?_)
    rw [handB_r] at hb
    rw [if_neg (by omega), hz] at hb
    simp only [Option.map_eq_some_iff] at hb
    obtain ⟨⟨b1, m1⟩, hb1, hb2⟩ := hb
    simp only [Prod.mk.injEq] at hb2
    obtain ⟨rfl, rfl⟩ := hb2
    obtain ⟨hm, ⟨hm1, hm2⟩, cur, e, hh, hs, hr⟩ := hobj o _ (obj_some hoo (by simp)) b1 m1 hb1
    have hlen : len ≤ n := by
     obtain ⟨v, hv⟩ := hv _ (List.mem_cons_self ..)
     cases hv with
     | os _ _ cap b' m' hb' hcap hlm =>
      rw [hb1] at hb'
      cases hb'
      omega
     | os0 _ a' k3 => exact Nat.zero_le _
    exact ⟨rfl, ⟨by show len ≤ m1.2; omega, hm2⟩, cur, e, hh, hs, fun i j c hi hc => hr i j c (by omega) hc⟩
   ·cases h
  | emp z τ =>
   simp only [handC] at h
   cases hsc : (E.scl τ && !ke) with
   | true =>
    rw [hsc] at h
    simp only [cond_true, Option.bind_eq_some_iff] at h
    obtain ⟨y, hy, h⟩ := h
    refine next hy (Option.some.inj h).symm (fun hz b m hb => ?_)
    rw [handB_r] at hb
    rw [if_neg (by omega), hz] at hb
    cases hb
   | false =>
    rw [hsc] at h
    simp only [cond_false, Option.bind_eq_some_iff] at h
    obtain ⟨y, hy, h⟩ := h
    exact same hy (Option.some.inj h).symm
  | int kd n =>
   simp only [handC, D.sc, cond_true, Option.bind_eq_some_iff] at h
   obtain ⟨y, hy, h⟩ := h
   exact same hy (Option.some.inj h).symm
  | bool b' =>
   simp only [handC, D.sc, cond_true, Option.bind_eq_some_iff] at h
   obtain ⟨y, hy, h⟩ := h
   exact same hy (Option.some.inj h).symm
  | str b' =>
   simp only [handC, D.sc, cond_true, Option.bind_eq_some_iff] at h
   obtain ⟨y, hy, h⟩ := h
   exact same hy (Option.some.inj h).symm
  | _ => simp [handC, D.sc] at h
theorem handC_src {p : Nat} {os : List (Ob RT den)} : ∀ {cs : List (D RT den)} {k : Nat} {x : List (D RT den) × List (Ob RT den) × List (Option (Nat × Nat))}, handC E ke p os cs k = some x →
  ∀ (i o len : Nat), x.2.2[i]? = some (some (o, len)) → p ≤ o
 | [], k, x, h, i, o, len, hi => by simp only [handC, Option.some.injEq] at h; subst h; simp at hi
 | c0 :: cs, k, x, h, i, o, len, hi => by
  have next : ∀ {d0 : D RT den} {ob0 : Ob RT den} {z : Option (Nat × Nat)} {y : List (D RT den) × List (Ob RT den) × List (Option (Nat × Nat))}, handC E ke p os cs (k + 1) = some y → x = (d0 :: y.1, ob0 :: y.2.1, z :: y.2.2) → (z = some (o, len) → p ≤ o) → p ≤ o := by
   intro d0 ob0 z y hy e h0
   subst e
   cases i with
   | zero => simp only [List.getElem?_cons_zero, Option.some.injEq] at hi; exact h0 hi
   | succ i => simp only [List.getElem?_cons_succ] at hi; exact handC_src hy i o len hi
  have same : ∀ {y : List (D RT den) × List (Ob RT den) × List (Option (Nat × Nat))}, handC E ke p os cs k = some y → x = (c0 :: y.1, y.2.1, y.2.2) → p ≤ o := by
   intro y hy e
   subst e
   exact handC_src hy i o len hi
  cases c0 with
  | os o' len' =>
   simp only [handC] at h
   cases hq : decide (o' < p) <;> rw [hq] at h <;> simp only [cond_true, cond_false, reduceCtorEq] at h
   split at h
   ·simp only [Option.bind_eq_some_iff] at h
    obtain ⟨y, hy, h⟩ := h
    refine next hy (Option.some.inj h).symm (fun hz => ?_)
    simp only [Option.some.injEq, Prod.mk.injEq] at hz
    have := of_decide_eq_false hq
    omega
   ·cases h
  | emp z τ =>
   simp only [handC] at h
   cases hsc : (E.scl τ && !ke) with
   | true =>
    rw [hsc] at h
    simp only [cond_true, Option.bind_eq_some_iff] at h
    obtain ⟨y, hy, h⟩ := h
    exact next hy (Option.some.inj h).symm (fun hz => by cases hz)
   | false =>
    rw [hsc] at h
    simp only [cond_false, Option.bind_eq_some_iff] at h
    obtain ⟨y, hy, h⟩ := h
    exact same hy (Option.some.inj h).symm
  | int kd n =>
   simp only [handC, D.sc, cond_true, Option.bind_eq_some_iff] at h
   obtain ⟨y, hy, h⟩ := h
   exact same hy (Option.some.inj h).symm
  | bool b' =>
   simp only [handC, D.sc, cond_true, Option.bind_eq_some_iff] at h
   obtain ⟨y, hy, h⟩ := h
   exact same hy (Option.some.inj h).symm
  | str b' =>
   simp only [handC, D.sc, cond_true, Option.bind_eq_some_iff] at h
   obtain ⟨y, hy, h⟩ := h
   exact same hy (Option.some.inj h).symm
  | _ => simp [handC, D.sc] at h
theorem nodupB_inj : ∀ {S : List (Option (Nat × Nat))}, nodupB S = true → ∀ (i j o l l' : Nat), S[i]? = some (some (o, l)) → S[j]? = some (some (o, l')) → i = j
 | [], _, i, j, o, l, l', hi, _ => by simp at hi
 | x :: S, h, i, j, o, l, l', hi, hj => by
  simp only [nodupB, Bool.and_eq_true] at h
  obtain ⟨hx, hS⟩ := h
  have clash : ∀ (k l1 l2 : Nat), x = some (o, l1) → S[k]? = some (some (o, l2)) → False := by
   intro k l1 l2 e hk
   subst e
   dsimp only at hx
   rw [List.all_eq_true] at hx
   have := hx _ (List.mem_of_getElem? hk)
   simp at this
  cases i with
  | zero =>
   cases j with
   | zero => rfl
   | succ j =>
    simp only [List.getElem?_cons_zero, Option.some.injEq] at hi
    simp only [List.getElem?_cons_succ] at hj
    exact (clash j l l' hi hj).elim
  | succ i =>
   simp only [List.getElem?_cons_succ] at hi
   cases j with
   | zero =>
    simp only [List.getElem?_cons_zero, Option.some.injEq] at hj
    exact (clash i l' l hj hi).elim
   | succ j =>
    simp only [List.getElem?_cons_succ] at hj
    rw [nodupB_inj hS i j o l l' hi hj]
def Ob.isRow : Ob RT den → Bool
 | .row .. => true
 | _ => false
structure Behind (E : Env RT den) (F : Frz) (w0 w : World) (p : Nat) (b0 β' : Bet) (outs : List (Ob RT den)) : Prop where
 objs : ∀ o ob, outs[o]? = some ob → ∀ b m, β' o = some (b, m) → ORep E F w β' b m ob
 keep : ∀ o, o < p → β' o = b0 o
 names : ∀ o b m, β' o = some (b, m) → b < w.heap.size ∧ (∀ off, ¬ F b off) ∧ o < outs.length ∧ (w0.heap.size ≤ b ∨ ∃ m', b0 o = some (b, m'))
 inj : ∀ o o' b m m', β' o = some (b, m) → β' o' = some (b, m') → o = o'
 none : ∀ o q, β'.h o q = none
theorem behind {F0 : Was} {w0 : World} {F : Frz} {β : Bet} {s : St RT den} {a : Act} {w : World} (h : Rel E F0 w0 F β s a w) {p : Nat} (hp : ∀ o x, F0.bet o = some x → o < p) (hpl : F0.len = p) (hrow : (s.objs.take p).all Ob.isRow = true) (hlent : ∀ b, F0.lent b → ∃ o m, F0.bet o = some (b, m)) (hlen : p ≤ s.objs.length)
  {cs : List (D RT den)} {x : List (D RT den) × List (Ob RT den) × List (Option (Nat × Nat))} (hx : handC E ke p s.objs cs p = some x) (hn : nodupB x.2.2 = true) (hv : ∀ c ∈ cs, ∃ v, VRep E F w β c v) :
  Behind E F w0 w p F0.bet (handB p F0.bet β x.2.2) (s.objs.take p ++ x.2.1) := by
 have hsrc := handC_src hx
 have hl2 := (handC_len hx).2
 have new : ∀ o b m, ¬ o < p → handB p F0.bet β x.2.2 o = some (b, m) → ∃ o' len m', x.2.2[o - p]? = some (some (o', len)) ∧ β o' = some (b, m') ∧ p ≤ o' := by
  intro o b m ho hb
  rw [handB_r] at hb
  rw [if_neg ho] at hb
  split at hb
  ·rename_i sr hsr
   simp only [Option.map_eq_some_iff] at hb
   obtain ⟨⟨b1, m1⟩, hb1, hb2⟩ := hb
   simp only [Prod.mk.injEq] at hb2
   obtain ⟨rfl, _⟩ := hb2
   exact ⟨sr.1, sr.2, m1, hsr, hb1, hsrc _ _ _ hsr⟩
  ·cases hb
 have old : ∀ o b m, o < p → handB p F0.bet β x.2.2 o = some (b, m) → F0.bet o = some (b, m) := by
  intro o b m ho hb
  rw [handB_r] at hb
  rw [if_pos ho] at hb
  exact hb
 have htake : (s.objs.take p).length = p := by simp; omega
 have plc : ∀ o x, o < p → F0.bet o = some x → β o = some x := fun o x ho hx => ((h.place o (by omega)).1).trans hx
 refine ⟨fun o ob hob b m hb => ?_, fun o ho => by rw [handB_r, if_pos ho], fun o b m hb => ?_, fun o o' b m m' hb hb' => ?_, fun _ _ => rfl⟩
 ·by_cases ho : o < p
  ·have hbo := old o b m ho hb
   have hβ := plc o _ ho hbo
   rw [List.getElem?_append_left (by omega)] at hob
   rw [List.all_eq_true] at hrow
   have hr := hrow ob (List.mem_of_getElem? hob)
   rw [List.getElem?_take, if_pos ho] at hob
   have := h.objs o ob hob b m hβ
   cases ob with
   | row l τ n f => exact this
   | box l cs => cases hr
   | deep => cases hr
   | gone => cases hr
  ·rw [List.getElem?_append_right (by omega), htake] at hob
   have := handC_objs (b0 := F0.bet) (S := x.2.2) h.objs (Nat.le_refl p) hx (fun i y hi => by rw [Nat.sub_self, Nat.zero_add]; exact hi) hv (o - p) ob hob b m (by rw [show p + (o - p) = o by omega]; exact hb)
   exact this
 ·by_cases ho : o < p
  ·have hbo := old o b m ho hb
   obtain ⟨h1, h2, h3, h4⟩ := h.names o b m (plc o _ ho hbo)
   exact ⟨h2, h3, by rw [List.length_append, htake]; omega, .inr ⟨m, hbo⟩⟩
  ·obtain ⟨o', len, m', h1, h2, h3⟩ := new o b m ho hb
   obtain ⟨n1, n2, n3, n4⟩ := h.names o' b m' h2
   refine ⟨n2, n3, ?_, ?_⟩
   ·have := (List.getElem?_eq_some_iff.1 h1).1
    rw [List.length_append, htake]
    omega
   ·rcases n1 with n1 | n1
    ·exact .inl n1
    ·obtain ⟨o2, m2, h5⟩ := hlent b n1
     have := h.inj o2 o' b _ _ (plc o2 _ (hp o2 _ h5) h5) h2
     have := hp o2 _ h5
     omega
 ·by_cases ho : o < p <;> by_cases ho' : o' < p
  ·exact h.inj o o' b _ _ (plc o _ ho (old o b m ho hb)) (plc o' _ ho' (old o' b m' ho' hb'))
  ·obtain ⟨o2, len, m2, h1, h2, h3⟩ := new o' b m' ho' hb'
   have := h.inj o o2 b _ _ (plc o _ ho (old o b m ho hb)) h2
   omega
  ·obtain ⟨o2, len, m2, h1, h2, h3⟩ := new o b m ho hb
   have := h.inj o' o2 b _ _ (plc o' _ ho' (old o' b m' ho' hb')) h2
   omega
  ·obtain ⟨o2, len, m2, h1, h2, h3⟩ := new o b m ho hb
   obtain ⟨o3, len3, m3, h4, h5, h6⟩ := new o' b m' ho' hb'
   have := h.inj o2 o3 b _ _ h2 h5
   subst this
   have := nodupB_inj hn _ _ _ _ _ h1 h4
   omega
def handS (E : Env RT den) (ke : Bool) (p : Nat) (os : List (Ob RT den)) : List (D RT den) → Option (List (D RT den) × List (Option (Nat × Nat)))
 | [] => some ([], [])
 | c :: cs => match c with
  | .os o len => bif decide (o < p) then none else (match obj os o with
   | .row false τ n f => (handS E ke p os cs).bind fun x => some (.rs none τ len f :: x.1, some (o, len) :: x.2)
   | _ => none)
  | .emp z τ => bif E.scl τ && !ke then (handS E ke p os cs).bind fun x => some (.rs (some z) τ 0 (fun _ => E.dflt τ) :: x.1, none :: x.2)
   else (handS E ke p os cs).bind fun x => some (.emp z τ :: x.1, x.2)
  | c => bif c.sc then (handS E ke p os cs).bind fun x => some (c :: x.1, x.2) else none
def unhC : List (D RT den) → Nat → List (D RT den) × List (Ob RT den)
 | [], _ => ([], [])
 | c :: cs, k => match c with
  | .rs _ τ n f => (.os k n :: (unhC cs (k + 1)).1, .row false τ n f :: (unhC cs (k + 1)).2)
  | c => (c :: (unhC cs k).1, (unhC cs k).2)
def unh (p : Nat) : D RT den → D RT den × List (Ob RT den)
 | .agg cs => (.agg (unhC cs p).1, (unhC cs p).2)
 | .rs _ τ n f => (.os p n, [.row false τ n f])
 | d => (d, [])
theorem handS_C {p : Nat} {os : List (Ob RT den)} : ∀ {cs : List (D RT den)} {x : List (D RT den) × List (Option (Nat × Nat))} (k : Nat), handS E ke p os cs = some x → handC E ke p os cs k = some ((unhC x.1 k).1, (unhC x.1 k).2, x.2)
 | [], x, k, h => by simp only [handS, Option.some.injEq] at h; subst h; rfl
 | c :: cs, x, k, h => by
  cases c with
  | os o len =>
   simp only [handS] at h
   simp only [handC]
   cases hq : decide (o < p) <;> rw [hq] at h <;> simp only [cond_true, cond_false, reduceCtorEq] at h ⊢
   split at h
   ·rename_i τ n f ho
    simp only [Option.bind_eq_some_iff] at h
    obtain ⟨y, hy, h⟩ := h
    have h := Option.some.inj h; subst h
    rw [handS_C (k + 1) hy]
    rfl
   ·cases h
  | emp z τ =>
   simp only [handS] at h
   simp only [handC]
   cases hsc : (E.scl τ && !ke) <;> rw [hsc] at h <;> simp only [cond_true, cond_false, Option.bind_eq_some_iff] at h ⊢
   ·obtain ⟨y, hy, h⟩ := h
    have h := Option.some.inj h; subst h
    exact ⟨_, handS_C k hy, rfl⟩
   ·obtain ⟨y, hy, h⟩ := h
    have h := Option.some.inj h; subst h
    exact ⟨_, handS_C (k + 1) hy, rfl⟩
  | int kd n =>
   simp only [handS, handC, D.sc, cond_true, Option.bind_eq_some_iff] at h ⊢
   obtain ⟨y, hy, h⟩ := h
   have h := Option.some.inj h; subst h
   exact ⟨_, handS_C k hy, rfl⟩
  | bool b =>
   simp only [handS, handC, D.sc, cond_true, Option.bind_eq_some_iff] at h ⊢
   obtain ⟨y, hy, h⟩ := h
   have h := Option.some.inj h; subst h
   exact ⟨_, handS_C k hy, rfl⟩
  | str b =>
   simp only [handS, handC, D.sc, cond_true, Option.bind_eq_some_iff] at h ⊢
   obtain ⟨y, hy, h⟩ := h
   have h := Option.some.inj h; subst h
   exact ⟨_, handS_C k hy, rfl⟩
  | _ => simp [handS, D.sc] at h
def handD (E : Env RT den) (ke : Bool) (p : Nat) (os : List (Ob RT den)) (d : D RT den) : Option (D RT den) :=
 match d with
 | .agg cs => (handS E ke p os cs).bind fun x => bif nodupB x.2 then some (.agg x.1) else none
 | d => (handS E ke p os [d]).bind fun x => bif nodupB x.2 then (match x.1 with | [d'] => some d' | _ => none) else none
theorem handD_hand {p : Nat} {os : List (Ob RT den)} {d d' : D RT den} (h : handD E ke p os d = some d') : hand E ke p os d = some ((unh p d').1, os.take p ++ (unh p d').2) := by
 have one : ∀ (d : D RT den), (∀ cs, d ≠ .agg cs) → ((handS E ke p os [d]).bind fun x => bif nodupB x.2 then (match x.1 with | [d'] => some d' | _ => none) else none) = some d' →
   ((handC E ke p os [d] p).bind fun x => bif nodupB x.2.2 then (match x.1 with | [d'] => some (d', os.take p ++ x.2.1) | _ => none) else none) = some ((unh p d').1, os.take p ++ (unh p d').2) := by
  intro d hd h
  simp only [Option.bind_eq_some_iff] at h
  obtain ⟨x, hx, h⟩ := h
  cases hn : nodupB x.2 with
  | false => rw [hn] at h; cases h
  | true =>
   rw [hn] at h
   rw [handS_C p hx]
   simp only [cond_true] at h
   split at h
   ·rename_i d1 hd1
    cases h
    simp only [Option.bind_some, hn, cond_true, hd1]
    have hna : ∀ cs, d' ≠ .agg cs := by
     intro cs e
     subst e
     cases d with
     | os o len =>
      simp only [handS] at hx
      cases hq : decide (o < p) <;> rw [hq] at hx <;> simp only [cond_true, cond_false, reduceCtorEq] at hx
      split at hx
      ·simp only [Option.bind_some, Option.some.injEq] at hx; subst hx; cases hd1
      ·cases hx
     | emp z τ =>
      simp only [handS] at hx
      cases hsc : (E.scl τ && !ke) <;> rw [hsc] at hx <;> simp only [cond_true, cond_false, Option.bind_some, Option.some.injEq] at hx <;> (subst hx; cases hd1)
     | agg cs' => exact hd cs' rfl
     | int kd n => simp only [handS, D.sc, cond_true, Option.bind_some, Option.some.injEq] at hx; subst hx; cases hd1
     | bool kd => simp only [handS, D.sc, cond_true, Option.bind_some, Option.some.injEq] at hx; subst hx; cases hd1
     | str kd => simp only [handS, D.sc, cond_true, Option.bind_some, Option.some.injEq] at hx; subst hx; cases hd1
     | _ => simp [handS, D.sc] at hx
    cases d' <;> first | rfl | exact absurd rfl (hna _)
   ·cases h
 cases d with
 | agg cs =>
  simp only [handD, Option.bind_eq_some_iff] at h
  obtain ⟨x, hx, h⟩ := h
  cases hn : nodupB x.2 with
  | false => rw [hn] at h; cases h
  | true =>
   rw [hn] at h
   have h := Option.some.inj h; subst h
   simp only [hand, handS_C p hx, Option.bind_some, hn, cond_true, unh]
 | _ => simp only [handD] at h; simp only [hand]; exact one _ (by intro cs e; cases e) h
section
variable (E : Env RT den) (ke : Bool) (pc : Pc RT den) {ρ : Type}
def finishX (fn : Func) (p : Nat) (out : D RT den → List (Ob RT den) → Option ρ) (e : Ex) (s : St RT den) : Option ρ :=
 match e with
 | .exit _ => none
 | _ => match fn.results.toList with
  | [r] => (result E s r).bind fun d => bif decide (p ≤ s.objs.length) && (s.objs.take p).all Ob.isRow then (handD E ke p s.objs d).bind fun x => out x (s.objs.take p) else none
  | _ => none
def evFunX (msk : Nat → List Nat) (lp : Lp RT den ρ) (out : D RT den → List (Ob RT den) → Option ρ) (f : Nat) (args : List (D RT den)) (ins : List (Ob RT den)) : Option ρ :=
 match E.fn f with
 | some fn =>
  match fn.body with
  | some c => evCode E pc msk lp 0 c ⟨args ++ List.replicate (fn.ntmps - args.length) .undef, ins⟩ (finishX E ke fn ins.length out)
  | none => none
 | none => none
end
theorem hand_rep {F0 : Was} {w0 : World} {F : Frz} {β : Bet} {s : St RT den} {a : Act} {w : World} (h : Rel E F0 w0 F β s a w) {p : Nat} (hp : ∀ o x, F0.bet o = some x → o < p) (hpl : F0.len = p) (hrow : (s.objs.take p).all Ob.isRow = true) (hlent : ∀ b, F0.lent b → ∃ o m, F0.bet o = some (b, m)) (hlen : p ≤ s.objs.length)
  {d r : D RT den} {outs : List (Ob RT den)} {v : Value} (hv : VRep E F w β d v) (hh : hand E ke p s.objs d = some (r, outs)) : p ≤ outs.length ∧ ∃ β', VRep E F w β' r v ∧ Behind E F w0 w p F0.bet β' outs := by
 have htake : (s.objs.take p).length = p := by simp; omega
 have one : ∀ (d : D RT den), (∀ cs, d ≠ .agg cs) → VRep E F w β d v → ((handC E ke p s.objs [d] p).bind fun x => bif nodupB x.2.2 then (match x.1 with | [d'] => some (d', s.objs.take p ++ x.2.1) | _ => none) else none) = some (r, outs) →
   p ≤ outs.length ∧ ∃ β', VRep E F w β' r v ∧ Behind E F w0 w p F0.bet β' outs := by
  intro d _ hv hh
  simp only [Option.bind_eq_some_iff] at hh
  obtain ⟨x, hx, hh⟩ := hh
  cases hn : nodupB x.2.2 with
  | false => rw [hn] at hh; cases hh
  | true =>
   rw [hn] at hh
   simp only [cond_true] at hh
   split at hh
   ·rename_i d' hd'
    simp only [Option.some.injEq, Prod.mk.injEq] at hh
    obtain ⟨rfl, rfl⟩ := hh
    refine ⟨by rw [List.length_append, htake]; omega, _, ?_, behind h hp hpl hrow hlent hlen hx hn (fun c hc => by simp at hc; subst hc; exact ⟨v, hv⟩)⟩
    exact handC_rep (b0 := F0.bet) (S := x.2.2) (Nat.le_refl p) hx (fun i y hi => by rw [Nat.sub_self, Nat.zero_add]; exact hi) 0 d' d v (by rw [hd']; rfl) rfl hv
   ·cases hh
 cases d with
 | agg cs =>
  simp only [hand, Option.bind_eq_some_iff] at hh
  obtain ⟨x, hx, hh⟩ := hh
  cases hn : nodupB x.2.2 with
  | false => rw [hn] at hh; cases hh
  | true =>
   rw [hn] at hh
   simp only [cond_true, Option.some.injEq, Prod.mk.injEq] at hh
   obtain ⟨rfl, rfl⟩ := hh
   cases hv with
   | agg _ vs k1 k2 =>
    refine ⟨by rw [List.length_append, htake]; omega, handB p F0.bet β x.2.2, .agg x.1 vs (by rw [(handC_len hx).1]; exact k1) (fun j c' hc' => ?_), behind h hp hpl hrow hlent hlen hx hn (fun c hc => ?_)⟩
    ·have hjl : j < cs.length := by rw [← (handC_len hx).1]; exact (List.getElem?_eq_some_iff.1 hc').1
     obtain ⟨c, hc⟩ : ∃ c, cs[j]? = some c := ⟨_, List.getElem?_eq_getElem hjl⟩
     exact handC_rep (b0 := F0.bet) (S := x.2.2) (Nat.le_refl p) hx (fun i y hi => by rw [Nat.sub_self, Nat.zero_add]; exact hi) j c' c _ hc' hc (k2 j c hc)
    ·obtain ⟨j, hj⟩ := List.mem_iff_getElem?.1 hc
     exact ⟨_, k2 j c hj⟩
 | _ => exact one _ (fun cs h => by cases h) hv hh
theorem funX_good (hE : Ok E P) {pc : Pc RT den} (hpc : PrOk E P pc.run) {d : Nat} {msk : Nat → List Nat} {ρ : Type} {lp : Lp RT den ρ} {out : D RT den → List (Ob RT den) → Option ρ} {y : ρ} {f : Nat} {xs : List (D RT den)} {ins : List (Ob RT den)}
  {r : D RT den} {outs : List (Ob RT den)} {fn : Func} {c : Code} (hf : E.fn f = some fn) (hb : fn.body = some c)
  (hname : (fn.name == "runtime.NumGoroutine") = false) (hlp : LpOk E pc d msk lp (loops 0 c)) (hins : ins.all Ob.isLent = true) (hlen0 : ins.length ≤ outs.length) (hout : ∀ d os, out d os = some y → (unh ins.length d).1 = r ∧ os ++ (unh ins.length d).2 = outs) (hv : evFunX E ke pc msk lp out f xs ins = some y) : GoodX E P f xs ins r outs := by
 refine ⟨⟨fn, hE.fn f fn hf, by simp [hb], hname⟩, hlen0, fun F w β vs hF hlen hxs hobj hnames hinj hh0 hdg0 => ?_⟩
 simp only [evFunX, hf, hb] at hv
 refine calls_of_wp (hE.fn f fn hf) hb ?_
 have h0 : Rel E ⟨F, fun b => ∃ o m, β o = some (b, m), β, ins.length, fun _ => False, fun b ⟨o, m, h⟩ => .inl ⟨o, m, (hnames o b m h).2.2, h⟩⟩ w F β ⟨xs ++ List.replicate (fn.ntmps - xs.length) .undef, ins⟩ { tmps := vs ++ Array.replicate (fn.ntmps - vs.size) Go.undef, defers := [] } w := by
  refine ⟨rfl, by simp; omega, fun i d hd => ?_, hobj, fun o b m hb => ⟨.inr ⟨o, m, hb⟩, (hnames o b m hb).1, (hnames o b m hb).2.1, (hnames o b m hb).2.2⟩, hinj, Keep.refl _ _ _, hF.lt, fun _ _ h => h, fun _ _ h => .inl h, fun o hlt => ⟨rfl, ?_⟩, fun _ _ => rfl, hid_flat hh0 hdg0, hF.tw rfl (fun b hb off hf => by obtain ⟨o, m, hb⟩ := hb; exact (hnames o b m hb).2.1 off hf)⟩
  ·dsimp only at hd ⊢
   rw [List.getElem?_append] at hd
   split at hd
   ·rename_i hlt
    have h1 : i < vs.size := by omega
    have h2 : i < vs.size + (fn.ntmps - vs.size) := by omega
    have := hxs i d hd
    have e : (vs ++ Array.replicate (fn.ntmps - vs.size) Go.undef).getD i Go.undef = vs.getD i Go.undef := by simp [Array.getD, h1, h2]
    rw [e]; exact this
   ·rename_i hge
    rw [List.getElem?_replicate] at hd
    split at hd
    ·rename_i hlt
     simp at hd; subst hd
     have h1 : ¬ i < vs.size := by omega
     have h2 : i < vs.size + (fn.ntmps - vs.size) := by omega
     have e : (vs ++ Array.replicate (fn.ntmps - vs.size) Go.undef).getD i Go.undef = Go.undef := by simp [Array.getD, h1, h2, Array.getElem_append]
     rw [e]; exact .undef
    ·simp at hd
  ·have hlt : o < ins.length := hlt
   rw [List.all_eq_true] at hins
   exact ⟨ins[o], List.getElem?_eq_getElem hlt, hins _ (List.getElem_mem hlt)⟩
 refine code_wp hE hpc c 0 hlp _ _ F β _ _ w h0 hv (fun e F' β' s' a' w' hr hk => ?_)
 have fin : (match fn.results.toList with
   | [r] => (result E s' r).bind fun d => bif decide (ins.length ≤ s'.objs.length) && (s'.objs.take ins.length).all Ob.isRow then (handD E ke ins.length s'.objs d).bind fun x => out x (s'.objs.take ins.length) else none
   | _ => none) = some y → a'.defers = [] ∧ ∃ v, (Go.results fn a'.tmps).run P w' = .ok v w' ∧
   ∃ v' F'' β'', Ending.returned v = .returned v' ∧ Keep (fun b => ∃ o m, β o = some (b, m)) w.heap.size w w' ∧ (∀ b o, F b o → F'' b o) ∧ (∀ b o, F'' b o → F b o ∨ w.heap.size ≤ b) ∧ (∀ b o, F'' b o → b < w'.heap.size) ∧
   VRep E F'' w' β'' r v' ∧ (∀ o ob, outs[o]? = some ob → ∀ b m, β'' o = some (b, m) → ORep E F'' w' β'' b m ob) ∧ (∀ o, o < ins.length → β'' o = β o) ∧
   (∀ o b m, β'' o = some (b, m) → b < w'.heap.size ∧ (∀ off, ¬ F'' b off) ∧ o < outs.length ∧ (w.heap.size ≤ b ∨ ∃ m', β o = some (b, m'))) ∧ (∀ o o' b m m', β'' o = some (b, m) → β'' o' = some (b, m') → o = o') ∧ ∀ o q, β''.h o q = none := by
  intro hk
  split at hk
  ·rename_i r0 hr0
   simp only [Option.bind_eq_some_iff] at hk
   obtain ⟨d, hd, hk⟩ := hk
   cases hpl : decide (ins.length ≤ s'.objs.length) && (s'.objs.take ins.length).all Ob.isRow with
   | false => rw [hpl] at hk; cases hk
   | true =>
    rw [hpl] at hk
    simp only [Bool.and_eq_true] at hpl
    simp only [cond_true, Option.bind_eq_some_iff] at hk
    obtain ⟨x, hx, hk⟩ := hk
    obtain ⟨h1, h2⟩ := hout _ _ hk
    obtain ⟨v, v1, v2⟩ := readVar_rep hE hr hd
    obtain ⟨_, β'', b1, b2⟩ := hand_rep (r := r) (outs := outs) hr (fun o x hx => (hnames o x.1 x.2 hx).2.2) rfl hpl.2 (fun b hb => hb) (of_decide_eq_true hpl.1) v2 (by rw [handD_hand hx, ← h1, ← h2])
    refine ⟨hr.defers, v, ?_, v, F', β'', rfl, hr.below, hr.frz1, fun b o hf => (hr.frz2 b o hf).elim .inl (fun h => h.elim .inr (fun h => h.elim)), hr.frz, b1, b2.objs, b2.keep, b2.names, b2.inj, b2.none⟩
    have := run_results (P := P) (fn := fn) (tmps := a'.tmps) (w := w') (vs := [v]) (by rw [hr0]; simp [List.mapM_cons, v1])
    simpa [retVal] using this
  ·cases hk
 cases e with
 | normal => exact fin hk
 | ret => exact fin hk
 | exit i => simp [finishX] at hk
end Go.Proofs.Ytcmfekgdlaffkaa.Vm

