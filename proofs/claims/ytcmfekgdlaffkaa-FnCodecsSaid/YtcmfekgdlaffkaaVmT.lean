
/- The value machine: functions that turn variables lent to them, and hand new rows over in them. Conditions: none. -/
import Derived.Test.YtcmfekgdlaffkaaVmS
namespace Go.Proofs.Ytcmfekgdlaffkaa.Vm
open Go Go.RowKit
set_option linter.unusedVariables false
set_option linter.unusedSimpArgs false
variable {RT : Type} {den : RT → Type} {E : Env RT den} {P : Program} {ke : Bool}
def hand1 (E : Env RT den) (bx ke : Bool) (p : Nat) (os : List (Ob RT den)) (c : D RT den) (k : Nat) : Option (D RT den × Option (Ob RT den × Option (Nat × Nat))) :=
 match c with
 | .os o len => bif decide (o < p) then some (.os o len, none) else match obj os o with
  | .row false τ n f => some (.os k len, some (.row false τ len f, some (o, len)))
  | _ => none
 | .ref o off => bif decide (o < p) then some (.ref o off, none) else match obj os o with
  | .box false cs => bif cs.all D.pure then some (.ref k off, some (.box false cs, some (o, 0))) else none
  | _ => none
 | .emp z τ => bif bx || ke then some (.emp z τ, none) else some (.os k 0, some (.row false τ 0 fun _ => E.dflt τ, none))
 | c => bif c.pure then some (c, none) else none
def handK (E : Env RT den) (bx ke : Bool) (p : Nat) (os : List (Ob RT den)) : List (D RT den) → Nat → Option (List (D RT den) × List (Ob RT den) × List (Option (Nat × Nat)))
 | [], _ => some ([], [], [])
 | c :: cs, k => (hand1 E bx ke p os c k).bind fun x => match x.2 with
  | none => (handK E bx ke p os cs k).bind fun y => some (x.1 :: y.1, y.2.1, y.2.2)
  | some z => (handK E bx ke p os cs (k + 1)).bind fun y => some (x.1 :: y.1, z.1 :: y.2.1, z.2 :: y.2.2)
def handO (E : Env RT den) (ke : Bool) (p : Nat) (os : List (Ob RT den)) : List (Ob RT den) → Nat → Option (List (Ob RT den) × List (Ob RT den) × List (Option (Nat × Nat)))
 | [], _ => some ([], [], [])
 | .box l cs :: obs, k => (handK E true ke p os cs k).bind fun x => (handO E ke p os obs (k + x.2.1.length)).bind fun y => some (.box l x.1 :: y.1, x.2.1 ++ y.2.1, x.2.2 ++ y.2.2)
 | .row l τ n f :: obs, k => (handO E ke p os obs k).bind fun y => some (.row l τ n f :: y.1, y.2.1, y.2.2)
 | .deep .. :: _, _ => none
 | .gone :: _, _ => none
def handR (E : Env RT den) (ke : Bool) (p : Nat) (os : List (Ob RT den)) (d : D RT den) (k : Nat) : Option (D RT den × List (Ob RT den) × List (Option (Nat × Nat))) :=
 match d with
 | .agg cs => (handK E false ke p os cs k).bind fun y => some (.agg y.1, y.2)
 | .tup ds => bif D.scalar (.tup ds) then some (.tup ds, [], []) else none
 | d => (handK E false ke p os [d] k).bind fun y => match y.1 with | [d'] => some (d', y.2) | _ => none
def handM (E : Env RT den) (ke : Bool) (p : Nat) (os : List (Ob RT den)) (d : D RT den) : Option (D RT den × List (Ob RT den)) :=
 (handO E ke p os (os.take p) p).bind fun x => (handR E ke p os d (p + x.2.1.length)).bind fun y =>
  bif nodupB (x.2.2 ++ y.2.2) then some (y.1, x.1 ++ (x.2.1 ++ y.2.1)) else none
theorem hand1_rep {F : Frz} {w : World} {β b0 : Bet} {p k : Nat} {bx : Bool} {os : List (Ob RT den)} {S : List (Option (Nat × Nat))} {c c' : D RT den} {x : Option (Ob RT den × Option (Nat × Nat))} {v : Value} (hk : p ≤ k) (h : hand1 E bx ke p os c k = some (c', x))
  (hS : ∀ z, x = some z → S[k - p]? = some z.2) (hold : ∀ o, o < p → β o = b0 o) (hv : VRep E F w β c v) : VRep E F w (handB p b0 β S) c' v := by
 have old : ∀ o y, o < p → β o = some y → handB p b0 β S o = some y := fun o y ho hy => by rw [handB_r, if_pos ho, ← hold o ho]; exact hy
 have pur : ∀ (d : D RT den), VRep E F w β d v → (bif d.pure then some (d, (none : Option (Ob RT den × Option (Nat × Nat)))) else none) = some (c', x) → VRep E F w (handB p b0 β S) c' v := by
  intro d hd hq
  cases hp : d.pure with
  | false => rw [hp] at hq; cases hq
  | true => rw [hp] at hq; cases hq; exact hd.pure hp
 cases hv with
 | os o len cap b m hb hcap hlm =>
  simp only [hand1] at h
  cases hq : decide (o < p) with
  | true => rw [hq] at h; cases h; exact .os o len cap b m (old o _ (of_decide_eq_true hq) hb) hcap hlm
  | false =>
   rw [hq] at h
   simp only [cond_false] at h
   split at h
   ·simp only [Option.some.injEq, Prod.mk.injEq] at h
    obtain ⟨rfl, rfl⟩ := h
    exact .os k len cap b (len, m.2) (handB_new hk (hS _ rfl) hb) ⟨hcap.1, hcap.2⟩ (Nat.le_refl _)
   ·cases h
 | os0 o a' k3 =>
  simp only [hand1] at h
  cases hq : decide (o < p) with
  | true => rw [hq] at h; cases h; exact .os0 o a' k3
  | false =>
   rw [hq] at h
   simp only [cond_false] at h
   split at h
   ·simp only [Option.some.injEq, Prod.mk.injEq] at h
    obtain ⟨rfl, rfl⟩ := h
    exact .os0 k a' k3
   ·cases h
 | ref o off b m hb =>
  simp only [hand1] at h
  cases hq : decide (o < p) with
  | true => rw [hq] at h; cases h; exact .ref o off b m (old o _ (of_decide_eq_true hq) hb)
  | false =>
   rw [hq] at h
   simp only [cond_false] at h
   split at h
   ·rename_i cs ho
    cases hc : cs.all D.pure with
    | false => rw [hc] at h; cases h
    | true =>
     rw [hc] at h
     simp only [cond_true, Option.some.injEq, Prod.mk.injEq] at h
     obtain ⟨rfl, rfl⟩ := h
     exact .ref k off b (0, m.2) (handB_new hk (hS _ rfl) hb)
   ·cases h
 | emp z τ a' k1 k2 k3 =>
  simp only [hand1] at h
  cases hq : bx || ke with
  | true => rw [hq] at h; cases h; exact .emp z τ a' k1 k2 k3
  | false => rw [hq] at h; cases h; exact .os0 k a' k3
 | int kd n => exact pur _ (.int kd n) h
 | bool b => exact pur _ (.bool b) h
 | str b => exact pur _ (.str b) h
 | nil => exact pur _ .nil h
 | undef => exact pur _ .undef h
 | q v => exact pur _ (.q v) h
 | eref o sz j off b m hb hj => exact pur _ (.eref o sz j off b m hb hj) h
 | rptr cs b o u k1 k2 => exact pur _ (.rptr cs b o u k1 k2) h
 | rs z τ n f a cap b o u k1 k2 k3 k4 k5 k6 k7 k8 => exact pur _ (.rs z τ n f a cap b o u k1 k2 k3 k4 k5 k6 k7 k8) h
 | fn f cap vs k1 k2 => exact pur _ (.fn f cap vs k1 k2) h
 | osn o i j len cap b m hb hc hl => exact pur _ (.osn o i j len cap b m hb hc hl) h
 | osn0 o i j a k3 => exact pur _ (.osn0 o i j a k3) h
 | osp o sz off len cap b m hb hc hl => exact pur _ (.osp o sz off len cap b m hb hc hl) h
 | osp0 o sz off a k3 => exact pur _ (.osp0 o sz off a k3) h
 | lit τ cs b o u k0 k1 k2 => exact pur _ (.lit τ cs b o u k0 k1 k2) h
 | agg cs vs k1 k2 => exact pur _ (.agg cs vs k1 k2) h
 | tup cs vs k1 k2 => exact pur _ (.tup cs vs k1 k2) h
theorem hand1_obj {F : Frz} {w : World} {β b0 : Bet} {p k : Nat} {bx : Bool} {os : List (Ob RT den)} {S : List (Option (Nat × Nat))} {c c' : D RT den} {z : Ob RT den × Option (Nat × Nat)} {v : Value} (hk : p ≤ k) (h : hand1 E bx ke p os c k = some (c', some z))
  (hS : S[k - p]? = some z.2) (hobj : ∀ (o : Nat) ob, os[o]? = some ob → ∀ b m, β o = some (b, m) → ORep E F w β b m ob) (hv : VRep E F w β c v) {b : Nat} {m : Nat × Nat} (hb : handB p b0 β S k = some (b, m)) : ORep E F w (handB p b0 β S) b m z.1 := by
 have src : ∀ s, z.2 = some s → ∃ m1, β s.1 = some (b, m1) ∧ m = (s.2, m1.2) := fun s hs => by
  rw [handB_r] at hb
  rw [if_neg (by omega), hS, hs] at hb
  simp only [Option.map_eq_some_iff] at hb
  obtain ⟨⟨b1, m1⟩, hb1, hb2⟩ := hb
  simp only [Prod.mk.injEq] at hb2
  obtain ⟨rfl, rfl⟩ := hb2
  exact ⟨m1, hb1, rfl⟩
 have pur : ∀ (d : D RT den), (bif d.pure then some (d, (none : Option (Ob RT den × Option (Nat × Nat)))) else none) = some (c', some z) → ORep E F w (handB p b0 β S) b m z.1 := by
  intro d hq
  cases hp : d.pure <;> rw [hp] at hq <;> cases hq
 have row : ∀ (o len : Nat), (∃ v, VRep E F w β (.os o len) v) → hand1 E bx ke p os (.os o len) k = some (c', some z) → ORep E F w (handB p b0 β S) b m z.1 := by
  intro o len hvv h
  simp only [hand1] at h
  cases hq : decide (o < p) with
  | true => rw [hq] at h; cases h
  | false =>
   rw [hq] at h
   simp only [cond_false] at h
   split at h
   ·rename_i τ n f hoo
    simp only [Option.some.injEq, Prod.mk.injEq] at h
    obtain ⟨rfl, rfl⟩ := h
    obtain ⟨m1, hb1, rfl⟩ := src _ rfl
    obtain ⟨hm, ⟨hm1, hm2⟩, cur, e, hh, hs, hr⟩ := hobj o _ (obj_some hoo (by simp)) b m1 hb1
    have hlen : len ≤ n := by
     obtain ⟨v, hv⟩ := hvv
     cases hv with
     | os _ _ cap b' m' hb' hcap hlm =>
      replace hb1 : β o = some (b, m1) := hb1
      rw [hb1] at hb'
      cases hb'
      omega
     | os0 _ a' k3 => exact Nat.zero_le _
    exact ⟨rfl, ⟨by show len ≤ m1.2; omega, hm2⟩, cur, e, hh, hs, fun i j c hi hc => hr i j c (by omega) hc⟩
   ·cases h
 cases c with
 | os o len => exact row o len ⟨v, hv⟩ h
 | ref o off =>
  simp only [hand1] at h
  cases hq : decide (o < p) with
  | true => rw [hq] at h; cases h
  | false =>
   rw [hq] at h
   simp only [cond_false] at h
   split at h
   ·rename_i cs ho
    cases hc : cs.all D.pure with
    | false => rw [hc] at h; cases h
    | true =>
     rw [hc] at h
     simp only [cond_true, Option.some.injEq, Prod.mk.injEq] at h
     obtain ⟨rfl, rfl⟩ := h
     obtain ⟨m1, hb1, rfl⟩ := src _ rfl
     obtain ⟨cur, e, hh, hs, hr⟩ := hobj o _ (obj_some ho (by simp)) b m1 hb1
     rw [List.all_eq_true] at hc
     exact ⟨cur, e, hh, hs, fun j c hcj => (hr j c hcj).pure (hc c (List.mem_of_getElem? hcj))⟩
   ·cases h
 | emp z0 τ =>
  simp only [hand1] at h
  cases hq : bx || ke with
  | true => rw [hq] at h; cases h
  | false =>
   rw [hq] at h
   simp only [cond_false, Option.some.injEq, Prod.mk.injEq] at h
   obtain ⟨rfl, rfl⟩ := h
   rw [handB_r] at hb
   rw [if_neg (by omega), hS] at hb
   cases hb
 | int kd n => exact pur (.int kd n) h
 | bool b' => exact pur (.bool b') h
 | str b' => exact pur (.str b') h
 | undef => exact pur .undef h
 | q => exact pur .q h
 | nil => exact pur .nil h
 | eref o sz j off => exact pur (.eref o sz j off) h
 | rptr cs => exact pur (.rptr cs) h
 | rs z' τ n f => exact pur (.rs z' τ n f) h
 | fn f cap => exact pur (.fn f cap) h
 | agg cs => exact pur (.agg cs) h
 | tup ds => exact pur (.tup ds) h
 | osn o i j len => exact pur (.osn o i j len) h
 | osp o i j len => exact pur (.osp o i j len) h
 | lit τ cs => exact pur (.lit τ cs) h
theorem hand1_src {p k : Nat} {bx : Bool} {os : List (Ob RT den)} {c c' : D RT den} {z : Ob RT den × Option (Nat × Nat)} (h : hand1 E bx ke p os c k = some (c', some z)) {o len : Nat} (hz : z.2 = some (o, len)) : p ≤ o := by
 have pur : ∀ (d : D RT den), (bif d.pure then some (d, (none : Option (Ob RT den × Option (Nat × Nat)))) else none) = some (c', some z) → p ≤ o := by
  intro d hq
  cases hp : d.pure <;> rw [hp] at hq <;> cases hq
 cases c with
 | os o' len' =>
  simp only [hand1] at h
  cases hq : decide (o' < p) with
  | true => rw [hq] at h; cases h
  | false =>
   rw [hq] at h
   simp only [cond_false] at h
   split at h
   ·simp only [Option.some.injEq, Prod.mk.injEq] at h
    obtain ⟨rfl, rfl⟩ := h
    cases hz
    have := of_decide_eq_false hq
    omega
   ·cases h
 | ref o' off =>
  simp only [hand1] at h
  cases hq : decide (o' < p) with
  | true => rw [hq] at h; cases h
  | false =>
   rw [hq] at h
   simp only [cond_false] at h
   split at h
   ·rename_i cs ho
    cases hc : cs.all D.pure with
    | false => rw [hc] at h; cases h
    | true =>
     rw [hc] at h
     simp only [cond_true, Option.some.injEq, Prod.mk.injEq] at h
     obtain ⟨rfl, rfl⟩ := h
     cases hz
     have := of_decide_eq_false hq
     omega
   ·cases h
 | emp z0 τ =>
  simp only [hand1] at h
  cases hq : bx || ke with
  | true => rw [hq] at h; cases h
  | false =>
   rw [hq] at h
   simp only [cond_false, Option.some.injEq, Prod.mk.injEq] at h
   obtain ⟨rfl, rfl⟩ := h
   cases hz
 | int kd n => exact pur (.int kd n) h
 | bool b' => exact pur (.bool b') h
 | str b' => exact pur (.str b') h
 | undef => exact pur .undef h
 | q => exact pur .q h
 | nil => exact pur .nil h
 | eref o sz j off => exact pur (.eref o sz j off) h
 | rptr cs => exact pur (.rptr cs) h
 | rs z' τ n f => exact pur (.rs z' τ n f) h
 | fn f cap => exact pur (.fn f cap) h
 | agg cs => exact pur (.agg cs) h
 | tup ds => exact pur (.tup ds) h
 | osn o i j len => exact pur (.osn o i j len) h
 | osp o i j len => exact pur (.osp o i j len) h
 | lit τ cs => exact pur (.lit τ cs) h
theorem handK_all {F : Frz} {w : World} {β b0 : Bet} {p : Nat} {bx : Bool} {os : List (Ob RT den)} {S : List (Option (Nat × Nat))} (hold : ∀ o, o < p → β o = b0 o) (hobj : ∀ (o : Nat) ob, os[o]? = some ob → ∀ b m, β o = some (b, m) → ORep E F w β b m ob) :
  ∀ {cs : List (D RT den)} {k : Nat} {x : List (D RT den) × List (Ob RT den) × List (Option (Nat × Nat))}, p ≤ k → handK E bx ke p os cs k = some x → (∀ i y, x.2.2[i]? = some y → S[k - p + i]? = some y) →
  x.1.length = cs.length ∧ x.2.1.length = x.2.2.length ∧ (∀ (j : Nat) (c' c : D RT den) (v : Value), x.1[j]? = some c' → cs[j]? = some c → VRep E F w β c v → VRep E F w (handB p b0 β S) c' v) ∧
  ((∀ c ∈ cs, ∃ v, VRep E F w β c v) → ∀ (i : Nat) (ob : Ob RT den), x.2.1[i]? = some ob → ∀ b m, handB p b0 β S (k + i) = some (b, m) → ORep E F w (handB p b0 β S) b m ob) ∧ (∀ (i o len : Nat), x.2.2[i]? = some (some (o, len)) → p ≤ o)
 | [], k, x, hk, h, hS => by simp only [handK, Option.some.injEq] at h; subst h; simp
 | c0 :: cs, k, x, hk, h, hS => by
  simp only [handK, Option.bind_eq_some_iff] at h
  obtain ⟨⟨c1, x1⟩, h1, h⟩ := h
  cases x1 with
  | none =>
   simp only [Option.bind_eq_some_iff, Option.some.injEq] at h
   obtain ⟨y, hy, rfl⟩ := h
   obtain ⟨i1, i2, i3, i4, i5⟩ := handK_all hold hobj hk hy hS
   refine ⟨by simp [i1], i2, fun j c' c v hc' hc hv => ?_, fun hv => i4 (fun c hc => hv c (by simp [hc])), i5⟩
   cases j with
   | zero =>
    simp only [List.getElem?_cons_zero, Option.some.injEq] at hc' hc
    subst hc'; subst hc
    exact hand1_rep hk h1 (fun z hz => by cases hz) hold hv
   | succ j =>
    simp only [List.getElem?_cons_succ] at hc' hc
    exact i3 j c' c v hc' hc hv
  | some z =>
   simp only [Option.bind_eq_some_iff, Option.some.injEq] at h
   obtain ⟨y, hy, rfl⟩ := h
   have hz : S[k - p]? = some z.2 := by have := hS 0 z.2 (by simp); simpa using this
   obtain ⟨i1, i2, i3, i4, i5⟩ := handK_all (S := S) (b0 := b0) hold hobj (by omega) hy (fun i y' hi => by
    have := hS (i + 1) y' (by simpa using hi)
    rw [show k + 1 - p + i = k - p + (i + 1) by omega]
    exact this)
   refine ⟨by simp [i1], by simp [i2], fun j c' c v hc' hc hv => ?_, fun hv i ob hob b m hb => ?_, fun i o len hi => ?_⟩
   ·cases j with
    | zero =>
     simp only [List.getElem?_cons_zero, Option.some.injEq] at hc' hc
     subst hc'; subst hc
     exact hand1_rep hk h1 (fun z' hz' => by cases hz'; exact hz) hold hv
    | succ j =>
     simp only [List.getElem?_cons_succ] at hc' hc
     exact i3 j c' c v hc' hc hv
   ·cases i with
    | zero =>
     simp only [List.getElem?_cons_zero, Option.some.injEq] at hob
     subst hob
     obtain ⟨v, hv0⟩ := hv c0 (by simp)
     exact hand1_obj hk h1 hz hobj hv0 hb
    | succ i =>
     simp only [List.getElem?_cons_succ] at hob
     exact i4 (fun c hc => hv c (by simp [hc])) i ob hob b m (by rw [show k + 1 + i = k + (i + 1) by omega]; exact hb)
   ·cases i with
    | zero =>
     simp only [List.getElem?_cons_zero, Option.some.injEq] at hi
     exact hand1_src h1 hi
    | succ i =>
     simp only [List.getElem?_cons_succ] at hi
     exact i5 i o len hi
theorem handO_all {F : Frz} {w : World} {β b0 : Bet} {p : Nat} {os : List (Ob RT den)} {S : List (Option (Nat × Nat))} (hold : ∀ o, o < p → β o = b0 o) (hobj : ∀ (o : Nat) ob, os[o]? = some ob → ∀ b m, β o = some (b, m) → ORep E F w β b m ob) :
  ∀ {obs : List (Ob RT den)} {k : Nat} {x : List (Ob RT den) × List (Ob RT den) × List (Option (Nat × Nat))}, p ≤ k → handO E ke p os obs k = some x → (∀ i y, x.2.2[i]? = some y → S[k - p + i]? = some y) → (∀ ob ∈ obs, ∀ l cs, ob = .box l cs → ∀ c ∈ cs, ∃ v, VRep E F w β c v) →
  x.1.length = obs.length ∧ x.2.1.length = x.2.2.length ∧ (∀ (j : Nat) (ob' ob : Ob RT den) (b : Nat) (m : Nat × Nat), x.1[j]? = some ob' → obs[j]? = some ob → ORep E F w β b m ob → ORep E F w (handB p b0 β S) b m ob') ∧
  (∀ (i : Nat) (ob : Ob RT den), x.2.1[i]? = some ob → ∀ b m, handB p b0 β S (k + i) = some (b, m) → ORep E F w (handB p b0 β S) b m ob) ∧ (∀ (i o len : Nat), x.2.2[i]? = some (some (o, len)) → p ≤ o)
 | [], k, x, hk, h, hS, hv => by simp only [handO, Option.some.injEq] at h; subst h; simp
 | .deep .. :: obs, k, x, hk, h, hS, hv => by simp [handO] at h
 | .gone :: obs, k, x, hk, h, hS, hv => by simp [handO] at h
 | .row l τ n f :: obs, k, x, hk, h, hS, hv => by
  simp only [handO, Option.bind_eq_some_iff, Option.some.injEq] at h
  obtain ⟨y, hy, rfl⟩ := h
  obtain ⟨i1, i2, i3, i4, i5⟩ := handO_all hold hobj hk hy hS (fun ob hob => hv ob (by simp [hob]))
  refine ⟨by simp [i1], i2, fun j ob' ob b m hob' hob ho => ?_, i4, i5⟩
  cases j with
  | zero =>
   simp only [List.getElem?_cons_zero, Option.some.injEq] at hob' hob
   subst hob'; subst hob
   exact ho
  | succ j =>
   simp only [List.getElem?_cons_succ] at hob' hob
   exact i3 j ob' ob b m hob' hob ho
 | .box l cs :: obs, k, x, hk, h, hS, hv => by
  simp only [handO, Option.bind_eq_some_iff, Option.some.injEq] at h
  obtain ⟨x1, hx1, y, hy, rfl⟩ := h
  obtain ⟨a1, a2, a3, a4, a5⟩ := handK_all (S := S) (b0 := b0) hold hobj hk hx1 (fun i y' hi => hS i y' (by
   have hlt := (List.getElem?_eq_some_iff.1 hi).1
   dsimp only
   rw [List.getElem?_append_left hlt]; exact hi))
  obtain ⟨i1, i2, i3, i4, i5⟩ := handO_all (S := S) (b0 := b0) hold hobj (Nat.le_trans hk (Nat.le_add_right _ _)) hy (fun i y' hi => by
   have := hS (x1.2.2.length + i) y' (by dsimp only; rw [List.getElem?_append_right (by omega), Nat.add_sub_cancel_left]; exact hi)
   rw [a2, show k + x1.2.2.length - p + i = k - p + (x1.2.2.length + i) by omega]
   exact this) (fun ob hob => hv ob (by simp [hob]))
  refine ⟨by simp [i1], by simp [a2, i2], fun j ob' ob b m hob' hob ho => ?_, fun i ob hob b m hb => ?_, fun i o len hi => ?_⟩
  ·cases j with
   | zero =>
    simp only [List.getElem?_cons_zero, Option.some.injEq] at hob' hob
    subst hob'; subst hob
    obtain ⟨cur, e, hh, hs, hr⟩ := ho
    refine ⟨cur, e, hh, by rw [a1]; exact hs, fun j c hc => ?_⟩
    have hjl : j < cs.length := by rw [← a1]; exact (List.getElem?_eq_some_iff.1 hc).1
    have hcj : cs[j]? = some cs[j] := List.getElem?_eq_getElem hjl
    exact a3 j c _ _ hc hcj (hr j _ hcj)
   | succ j =>
    simp only [List.getElem?_cons_succ] at hob' hob
    exact i3 j ob' ob b m hob' hob ho
  ·dsimp only at hob
   by_cases hi : i < x1.2.1.length
   ·rw [List.getElem?_append_left hi] at hob
    exact a4 (fun c hc => hv _ (by simp) l cs rfl c hc) i ob hob b m hb
   ·rw [List.getElem?_append_right (by omega)] at hob
    exact i4 _ ob hob b m (by rw [show k + x1.2.1.length + (i - x1.2.1.length) = k + i by omega]; exact hb)
  ·dsimp only at hi
   by_cases hlt : i < x1.2.2.length
   ·rw [List.getElem?_append_left hlt] at hi
    exact a5 i o len hi
   ·rw [List.getElem?_append_right (by omega)] at hi
    exact i5 _ o len hi
theorem handR_all {F : Frz} {w : World} {β b0 : Bet} {p : Nat} {os : List (Ob RT den)} {S : List (Option (Nat × Nat))} (hold : ∀ o, o < p → β o = b0 o) (hobj : ∀ (o : Nat) ob, os[o]? = some ob → ∀ b m, β o = some (b, m) → ORep E F w β b m ob)
  {d : D RT den} {k : Nat} {x : D RT den × List (Ob RT den) × List (Option (Nat × Nat))} (hk : p ≤ k) (h : handR E ke p os d k = some x) (hS : ∀ i y, x.2.2[i]? = some y → S[k - p + i]? = some y) {v : Value} (hv : VRep E F w β d v) :
  x.2.1.length = x.2.2.length ∧ VRep E F w (handB p b0 β S) x.1 v ∧
  (∀ (i : Nat) (ob : Ob RT den), x.2.1[i]? = some ob → ∀ b m, handB p b0 β S (k + i) = some (b, m) → ORep E F w (handB p b0 β S) b m ob) ∧ (∀ (i o len : Nat), x.2.2[i]? = some (some (o, len)) → p ≤ o) := by
 have one : ∀ (d : D RT den), VRep E F w β d v → ((handK E false ke p os [d] k).bind fun y => match y.1 with | [d'] => some (d', y.2) | _ => none) = some x → x.2.1.length = x.2.2.length ∧ VRep E F w (handB p b0 β S) x.1 v ∧
  (∀ (i : Nat) (ob : Ob RT den), x.2.1[i]? = some ob → ∀ b m, handB p b0 β S (k + i) = some (b, m) → ORep E F w (handB p b0 β S) b m ob) ∧ (∀ (i o len : Nat), x.2.2[i]? = some (some (o, len)) → p ≤ o) := by
  intro d hv h
  simp only [Option.bind_eq_some_iff] at h
  obtain ⟨y, hy, h⟩ := h
  split at h
  ·rename_i d' hd'
   have h := Option.some.inj h; subst h
   obtain ⟨a1, a2, a3, a4, a5⟩ := handK_all (S := S) (b0 := b0) hold hobj hk hy hS
   exact ⟨a2, a3 0 d' d v (by rw [hd']; rfl) rfl hv, a4 (fun c hc => by simp at hc; subst hc; exact ⟨v, hv⟩), a5⟩
  ·cases h
 cases hv with
 | agg cs vs k1 k2 =>
  simp only [handR, Option.bind_eq_some_iff, Option.some.injEq] at h
  obtain ⟨y, hy, rfl⟩ := h
  obtain ⟨a1, a2, a3, a4, a5⟩ := handK_all (S := S) (b0 := b0) hold hobj hk hy hS
  refine ⟨a2, .agg _ vs (by rw [a1]; exact k1) (fun j c' hc' => ?_), a4 (fun c hc => ?_), a5⟩
  ·have hjl : j < cs.length := by rw [← a1]; exact (List.getElem?_eq_some_iff.1 hc').1
   have hcj : cs[j]? = some cs[j] := List.getElem?_eq_getElem hjl
   exact a3 j c' _ _ hc' hcj (k2 j _ hcj)
  ·obtain ⟨j, hj⟩ := List.mem_iff_getElem?.1 hc
   exact ⟨_, k2 j c hj⟩
 | tup ds vs k1 k2 =>
  simp only [handR] at h
  cases hs : D.scalar (.tup ds) with
  | false => rw [hs] at h; cases h
  | true =>
   rw [hs] at h
   simp only [cond_true, Option.some.injEq] at h
   subst h
   exact ⟨rfl, VRep.scalar hs (.tup ds vs k1 k2), fun i ob hob => by simp at hob, fun i o len hi => by simp at hi⟩
 | int kd n => exact one _ (.int kd n) h
 | bool b => exact one _ (.bool b) h
 | str b => exact one _ (.str b) h
 | undef => exact one _ .undef h
 | q v => exact one _ (.q v) h
 | nil => exact one _ .nil h
 | ref o off b m hb => exact one _ (.ref o off b m hb) h
 | eref o sz j off b m hb hj => exact one _ (.eref o sz j off b m hb hj) h
 | rptr cs b o u k1 k2 => exact one _ (.rptr cs b o u k1 k2) h
 | rs z τ n f a cap b o u k1 k2 k3 k4 k5 k6 k7 k8 => exact one _ (.rs z τ n f a cap b o u k1 k2 k3 k4 k5 k6 k7 k8) h
 | emp z τ a k1 k2 k3 => exact one _ (.emp z τ a k1 k2 k3) h
 | os o len cap b m hb hc hl => exact one _ (.os o len cap b m hb hc hl) h
 | os0 o a k3 => exact one _ (.os0 o a k3) h
 | fn f cap vs k1 k2 => exact one _ (.fn f cap vs k1 k2) h
 | osn o i j len cap b m hb hc hl => exact one _ (.osn o i j len cap b m hb hc hl) h
 | osn0 o i j a k3 => exact one _ (.osn0 o i j a k3) h
 | osp o sz off len cap b m hb hc hl => exact one _ (.osp o sz off len cap b m hb hc hl) h
 | osp0 o sz off a k3 => exact one _ (.osp0 o sz off a k3) h
 | lit τ cs b o u k0 k1 k2 => exact one _ (.lit τ cs b o u k0 k1 k2) h
def boxRef (refs : List Nat) (x : Ob RT den × Nat) : Bool := match x.1 with | .box .. => refs.elem x.2 | _ => true
theorem behindM {F0 : Was} {w0 : World} {F : Frz} {β : Bet} {s : St RT den} {a : Act} {w : World} (h : Rel E F0 w0 F β s a w) {p : Nat} (hp : ∀ o x, F0.bet o = some x → o < p) (hpl : F0.len = p) (hlent : ∀ b, F0.lent b → ∃ o m, F0.bet o = some (b, m)) (hlen : p ≤ s.objs.length)
  {refs : List Nat} (hrefs : ∀ o, o ∈ refs → ∃ x, F0.bet o = some x) (hbx : (s.objs.take p).zipIdx.all (boxRef refs) = true) {d r : D RT den} {outs : List (Ob RT den)} {v : Value} (hv : VRep E F w β d v) (hh : handM E ke p s.objs d = some (r, outs)) : p ≤ outs.length ∧ ∃ β', VRep E F w β' r v ∧ Behind E F w0 w p F0.bet β' outs := by
 simp only [handM, Option.bind_eq_some_iff] at hh
 obtain ⟨x, hx, y, hy, hh⟩ := hh
 cases hn : nodupB (x.2.2 ++ y.2.2) with
 | false => rw [hn] at hh; cases hh
 | true =>
 rw [hn] at hh
 simp only [cond_true, Option.some.injEq, Prod.mk.injEq] at hh
 obtain ⟨rfl, rfl⟩ := hh
 have hold : ∀ o, o < p → β o = F0.bet o := fun o ho => (h.place o (by omega)).1
 have htake : (s.objs.take p).length = p := by simp; omega
 have hcell : ∀ ob ∈ s.objs.take p, ∀ l cs, ob = .box l cs → ∀ c ∈ cs, ∃ v, VRep E F w β c v := by
  intro ob hob l cs e c hc
  subst e
  obtain ⟨o, ho⟩ := List.mem_iff_getElem?.1 hob
  rw [List.all_eq_true] at hbx
  have hb := hbx (.box l cs, o) (List.mem_zipIdx_iff_getElem?.2 ho)
  simp only [boxRef, List.elem_eq_mem, decide_eq_true_eq] at hb
  obtain ⟨x, hx⟩ := hrefs o hb
  have hop := hp o x hx
  rw [List.getElem?_take, if_pos hop] at ho
  obtain ⟨cur, e', hh, hs, hr⟩ := h.objs o _ ho x.1 x.2 ((hold o hop).trans hx)
  obtain ⟨j, hj⟩ := List.mem_iff_getElem?.1 hc
  exact ⟨_, hr j c hj⟩
 obtain ⟨a1, a2, a3, a4, a5⟩ := handO_all (S := x.2.2 ++ y.2.2) (b0 := F0.bet) hold h.objs (Nat.le_refl p) hx (fun i z hi => by
  rw [Nat.sub_self, Nat.zero_add, List.getElem?_append_left (List.getElem?_eq_some_iff.1 hi).1]; exact hi) hcell
 obtain ⟨b2, b3, b4, b5⟩ := handR_all (S := x.2.2 ++ y.2.2) (b0 := F0.bet) hold h.objs (Nat.le_add_right p _) hy (fun i z hi => by
  rw [a2, Nat.add_sub_cancel_left, List.getElem?_append_right (by omega), Nat.add_sub_cancel_left]; exact hi) hv
 have hsrc : ∀ (i o len : Nat), (x.2.2 ++ y.2.2)[i]? = some (some (o, len)) → p ≤ o := by
  intro i o len hi
  by_cases hlt : i < x.2.2.length
  ·rw [List.getElem?_append_left hlt] at hi; exact a5 i o len hi
  ·rw [List.getElem?_append_right (by omega)] at hi; exact b5 _ o len hi
 have new : ∀ o b m, ¬ o < p → handB p F0.bet β (x.2.2 ++ y.2.2) o = some (b, m) → ∃ o' len m', (x.2.2 ++ y.2.2)[o - p]? = some (some (o', len)) ∧ β o' = some (b, m') ∧ p ≤ o' := by
  intro o b m ho hb
  rw [handB_r] at hb
  rw [if_neg ho] at hb
  split at hb
  ·rename_i sr hsr
   simp only [Option.map_eq_some_iff] at hb
   obtain ⟨⟨b1, m1⟩, hb1, hb2⟩ := hb
   simp only [Prod.mk.injEq] at hb2
   obtain ⟨rfl, _⟩ := hb2
   exact ⟨sr.1, sr.2, m1, hsr, hb1, hsrc _ _ _ hsr⟩
  ·cases hb
 have old : ∀ o b m, o < p → handB p F0.bet β (x.2.2 ++ y.2.2) o = some (b, m) → β o = some (b, m) := by
  intro o b m ho hb
  rw [handB_r] at hb
  rw [if_pos ho] at hb
  rw [hold o ho]; exact hb
 have ol : x.1.length = p := by rw [a1, htake]
 refine ⟨by rw [List.length_append, ol]; omega, handB p F0.bet β (x.2.2 ++ y.2.2), b3, fun o ob hob b m hb => ?_, fun o ho => by rw [handB_r, if_pos ho], fun o b m hb => ?_, fun o o' b m m' hb hb' => ?_, fun _ _ => rfl⟩
 ·by_cases ho : o < p
  ·rw [List.getElem?_append_left (by omega)] at hob
   have hlt : o < (s.objs.take p).length := by omega
   have hq : (s.objs.take p)[o]? = some (s.objs.take p)[o] := List.getElem?_eq_getElem hlt
   have hq2 := hq
   rw [List.getElem?_take, if_pos ho] at hq2
   exact a3 o ob _ b m hob hq (h.objs o _ hq2 b m (old o b m ho hb))
  ·rw [List.getElem?_append_right (by omega), ol] at hob
   by_cases hi : o - p < x.2.1.length
   ·rw [List.getElem?_append_left hi] at hob
    exact a4 (o - p) ob hob b m (by rw [show p + (o - p) = o by omega]; exact hb)
   ·rw [List.getElem?_append_right (by omega)] at hob
    exact b4 _ ob hob b m (by rw [show p + x.2.1.length + (o - p - x.2.1.length) = o by omega]; exact hb)
 ·by_cases ho : o < p
  ·have hbo := old o b m ho hb
   obtain ⟨h1, h2, h3, h4⟩ := h.names o b m hbo
   exact ⟨h2, h3, by rw [List.length_append, ol]; omega, .inr ⟨m, by rw [← hold o ho]; exact hbo⟩⟩
  ·obtain ⟨o', len, m', h1, h2, h3⟩ := new o b m ho hb
   obtain ⟨n1, n2, n3, n4⟩ := h.names o' b m' h2
   refine ⟨n2, n3, ?_, ?_⟩
   ·have := (List.getElem?_eq_some_iff.1 h1).1
    simp only [List.length_append, ol] at this ⊢
    omega
   ·rcases n1 with n1 | n1
    ·exact .inl n1
    ·obtain ⟨o2, m2, h5⟩ := hlent b n1
     have h6 := hp o2 _ h5
     have := h.inj o2 o' b _ _ ((hold o2 h6).trans h5) h2
     omega
 ·by_cases ho : o < p <;> by_cases ho' : o' < p
  ·exact h.inj o o' b _ _ (old o b m ho hb) (old o' b m' ho' hb')
  ·obtain ⟨o2, len, m2, h1, h2, h3⟩ := new o' b m' ho' hb'
   have := h.inj o o2 b _ _ (old o b m ho hb) h2
   omega
  ·obtain ⟨o2, len, m2, h1, h2, h3⟩ := new o b m ho hb
   have := h.inj o' o2 b _ _ (old o' b m' ho' hb') h2
   omega
  ·obtain ⟨o2, len, m2, h1, h2, h3⟩ := new o b m ho hb
   obtain ⟨o3, len3, m3, h4, h5, h6⟩ := new o' b m' ho' hb'
   have := h.inj o2 o3 b _ _ h2 h5
   subst this
   have := nodupB_inj hn _ _ _ _ _ h1 h4
   omega
section
variable (E : Env RT den) (ke : Bool) (pc : Pc RT den) {ρ : Type}
def D.refs1 : D RT den → List Nat
 | .ref o _ => [o]
 | _ => []
def finishM (fn : Func) (p : Nat) (refs : List Nat) (out : D RT den → List (Ob RT den) → Option ρ) (e : Ex) (s : St RT den) : Option ρ :=
 match e with
 | .exit _ => none
 | _ => (resM E s fn.results.toList).bind fun ds => bif decide (p ≤ s.objs.length) && (s.objs.take p).zipIdx.all (boxRef refs) then (handM E ke p s.objs (retOf ds)).bind fun x => out x.1 x.2 else none
def evFunM (msk : Nat → List Nat) (lp : Lp RT den ρ) (out : D RT den → List (Ob RT den) → Option ρ) (f : Nat) (args : List (D RT den)) (ins : List (Ob RT den)) : Option ρ :=
 match E.fn f with
 | some fn =>
  match fn.body with
  | some c => evCode E pc msk lp 0 c ⟨args ++ List.replicate (fn.ntmps - args.length) .undef, ins⟩ (finishM E ke fn ins.length (args.flatMap D.refs1) out)
  | none => none
 | none => none
end
theorem funM_good (hE : Ok E P) {pc : Pc RT den} (hpc : PrOk E P pc.run) {d : Nat} {msk : Nat → List Nat} {ρ : Type} {lp : Lp RT den ρ} {out : D RT den → List (Ob RT den) → Option ρ} {y : ρ} {f : Nat} {xs : List (D RT den)} {ins : List (Ob RT den)}
  {r : D RT den} {outs : List (Ob RT den)} {fn : Func} {c : Code} (hf : E.fn f = some fn) (hb : fn.body = some c)
  (hname : (fn.name == "runtime.NumGoroutine") = false) (hlp : LpOk E pc d msk lp (loops 0 c)) (hins : ins.all Ob.isLent = true) (hlen0 : ins.length ≤ outs.length) (hout : ∀ d os, out d os = some y → d = r ∧ os = outs) (hv : evFunM E ke pc msk lp out f xs ins = some y) : GoodX E P f xs ins r outs := by
 refine ⟨⟨fn, hE.fn f fn hf, by simp [hb], hname⟩, hlen0, fun F w β vs hF hlen hxs hobj hnames hinj hh0 hdg0 => ?_⟩
 simp only [evFunM, hf, hb] at hv
 have hrefs : ∀ o, o ∈ xs.flatMap D.refs1 → ∃ x, β o = some x := by
  intro o ho
  simp only [List.mem_flatMap] at ho
  obtain ⟨d, hd, ho⟩ := ho
  cases d with
  | ref o' off =>
   simp only [D.refs1, List.mem_singleton] at ho
   subst ho
   obtain ⟨j, hj⟩ := List.mem_iff_getElem?.1 hd
   have := hxs j _ hj
   generalize vs.getD j Go.undef = v at this
   cases this with
   | ref _ _ b m hb => exact ⟨_, hb⟩
  | _ => simp [D.refs1] at ho
 refine calls_of_wp (hE.fn f fn hf) hb ?_
 have h0 : Rel E ⟨F, fun b => ∃ o m, β o = some (b, m), β, ins.length, fun _ => False, fun b ⟨o, m, h⟩ => .inl ⟨o, m, (hnames o b m h).2.2, h⟩⟩ w F β ⟨xs ++ List.replicate (fn.ntmps - xs.length) .undef, ins⟩ { tmps := vs ++ Array.replicate (fn.ntmps - vs.size) Go.undef, defers := [] } w := by
  refine ⟨rfl, by simp; omega, fun i d hd => ?_, hobj, fun o b m hb => ⟨.inr ⟨o, m, hb⟩, (hnames o b m hb).1, (hnames o b m hb).2.1, (hnames o b m hb).2.2⟩, hinj, Keep.refl _ _ _, hF.lt, fun _ _ h => h, fun _ _ h => .inl h, fun o hlt => ⟨rfl, ?_⟩, fun _ _ => rfl, hid_flat hh0 hdg0, hF.tw rfl (fun b hb off hf => by obtain ⟨o, m, hb⟩ := hb; exact (hnames o b m hb).2.1 off hf)⟩
  ·dsimp only at hd ⊢
   rw [List.getElem?_append] at hd
   split at hd
   ·rename_i hlt
    have h1 : i < vs.size := by omega
    have h2 : i < vs.size + (fn.ntmps - vs.size) := by omega
    have := hxs i d hd
    have e : (vs ++ Array.replicate (fn.ntmps - vs.size) Go.undef).getD i Go.undef = vs.getD i Go.undef := by simp [Array.getD, h1, h2]
    rw [e]; exact this
   ·rename_i hge
    rw [List.getElem?_replicate] at hd
    split at hd
    ·rename_i hlt
     simp at hd; subst hd
     have h1 : ¬ i < vs.size := by omega
     have h2 : i < vs.size + (fn.ntmps - vs.size) := by omega
     have e : (vs ++ Array.replicate (fn.ntmps - vs.size) Go.undef).getD i Go.undef = Go.undef := by simp [Array.getD, h1, h2, Array.getElem_append]
     rw [e]; exact .undef
    ·simp at hd
  ·have hlt : o < ins.length := hlt
   rw [List.all_eq_true] at hins
   exact ⟨ins[o], List.getElem?_eq_getElem hlt, hins _ (List.getElem_mem hlt)⟩
 refine code_wp hE hpc c 0 hlp _ _ F β _ _ w h0 hv (fun e F' β' s' a' w' hr hk => ?_)
 have fin : ((resM E s' fn.results.toList).bind fun ds => bif decide (ins.length ≤ s'.objs.length) && (s'.objs.take ins.length).zipIdx.all (boxRef (xs.flatMap D.refs1)) then (handM E ke ins.length s'.objs (retOf ds)).bind fun x => out x.1 x.2 else none) = some y → a'.defers = [] ∧ ∃ v, (Go.results fn a'.tmps).run P w' = .ok v w' ∧
   ∃ v' F'' β'', Ending.returned v = .returned v' ∧ Keep (fun b => ∃ o m, β o = some (b, m)) w.heap.size w w' ∧ (∀ b o, F b o → F'' b o) ∧ (∀ b o, F'' b o → F b o ∨ w.heap.size ≤ b) ∧ (∀ b o, F'' b o → b < w'.heap.size) ∧
   VRep E F'' w' β'' r v' ∧ (∀ o ob, outs[o]? = some ob → ∀ b m, β'' o = some (b, m) → ORep E F'' w' β'' b m ob) ∧ (∀ o, o < ins.length → β'' o = β o) ∧
   (∀ o b m, β'' o = some (b, m) → b < w'.heap.size ∧ (∀ off, ¬ F'' b off) ∧ o < outs.length ∧ (w.heap.size ≤ b ∨ ∃ m', β o = some (b, m'))) ∧ (∀ o o' b m m', β'' o = some (b, m) → β'' o' = some (b, m') → o = o') ∧ ∀ o q, β''.h o q = none := by
  intro hk
  simp only [Option.bind_eq_some_iff] at hk
  obtain ⟨ds, hds, hk⟩ := hk
  cases hpl : decide (ins.length ≤ s'.objs.length) && (s'.objs.take ins.length).zipIdx.all (boxRef (xs.flatMap D.refs1)) with
  | false => rw [hpl] at hk; cases hk
  | true =>
   rw [hpl] at hk
   simp only [Bool.and_eq_true] at hpl
   simp only [cond_true, Option.bind_eq_some_iff] at hk
   obtain ⟨x, hx, hk⟩ := hk
   obtain ⟨h1, h2⟩ := hout _ _ hk
   obtain ⟨us, u1, u2, u3⟩ := resM_rep hE hr _ ds hds
   have hv : VRep E F' w' β' (retOf ds) (retVal us) := by
    match us, ds, u2, u3 with
    | [], [], _, _ => exact .tup [] #[] rfl (by simp)
    | [v], [d], _, u3 => exact u3 0 d rfl
    | v :: v' :: us, d :: d' :: ds, u2, u3 =>
     refine .tup _ _ (by simp at u2 ⊢; omega) (fun j c hc => ?_)
     have := u3 j c hc
     rw [← getD_toList]
     exact this
   obtain ⟨_, β'', b1, b2⟩ := behindM (r := r) (outs := outs) hr (fun o x hx => (hnames o x.1 x.2 hx).2.2) rfl (fun b hb => hb) (of_decide_eq_true hpl.1) hrefs hpl.2 hv (by rw [hx, ← h1, ← h2])
   exact ⟨hr.defers, _, run_results u1, _, F', β'', rfl, hr.below, hr.frz1, fun b o hf => (hr.frz2 b o hf).elim .inl (fun h => h.elim .inr (fun h => h.elim)), hr.frz, b1, b2.objs, b2.keep, b2.names, b2.inj, b2.none⟩
 cases e with
 | normal => exact fin hk
 | ret => exact fin hk
 | exit i => simp [finishM] at hk
def finishG {ρ : Type} (E : Env RT den) (fn : Func) (out : D RT den → List (Ob RT den) → Option ρ) (e : Ex) (s : St RT den) : Option ρ :=
 match e with
 | .exit _ => none
 | _ => match fn.results.toList with
  | [r] => (result E s r).bind fun d => match d with
   | .os j n => (match obj s.objs j with | .row false τ m g => out (.os 0 n) [.row false τ m g] | _ => none)
   | _ => none
  | _ => none
def evFunG {ρ : Type} (E : Env RT den) (pc : Pc RT den) (msk : Nat → List Nat) (lp : Lp RT den ρ) (out : D RT den → List (Ob RT den) → Option ρ) (f : Nat) (args : List (D RT den)) (ins : List (Ob RT den)) : Option ρ :=
 match E.fn f with
 | some fn =>
  match fn.body with
  | some c => evCode E pc msk lp 0 c ⟨args ++ List.replicate (fn.ntmps - args.length) .undef, ins⟩ (finishG E fn out)
  | none => none
 | none => none
theorem funG_good (hE : Ok E P) {pc : Pc RT den} (hpc : PrOk E P pc.run) {d : Nat} {msk : Nat → List Nat} {ρ : Type} {lp : Lp RT den ρ} {out : D RT den → List (Ob RT den) → Option ρ} {y : ρ} {f : Nat} {xs : List (D RT den)} {τ0 : RT} {n0 : Nat} {g0 : Nat → den τ0}
  {r : D RT den} {outs : List (Ob RT den)} {fn : Func} {c : Code} (hf : E.fn f = some fn) (hb : fn.body = some c)
  (hname : (fn.name == "runtime.NumGoroutine") = false) (hlp : LpOk E pc d msk lp (loops 0 c)) (hout : ∀ d os, out d os = some y → d = r ∧ os = outs) (hv : evFunG E pc msk lp out f xs [.row false τ0 n0 g0] = some y) : GoodG E P f xs [.row false τ0 n0 g0] r outs := by
 refine ⟨⟨fn, hE.fn f fn hf, by simp [hb], hname⟩, fun F w β vs hF hlen hxs hobj hnames hinj hh0 => ?_⟩
 simp only [evFunG, hf, hb] at hv
 refine calls_of_wp (hE.fn f fn hf) hb ?_
 have hdg0 : ∀ (o : Nat) (ob : Ob RT den), [Ob.row false τ0 n0 g0][o]? = some ob → ob.dg = false := fun o ob ho => by
  cases o with
  | zero => simp only [List.getElem?_cons_zero, Option.some.injEq] at ho; subst ho; rfl
  | succ o => simp at ho
 have h0 : Rel E ⟨F, fun b => ∃ o m, β o = some (b, m), β, 0, fun b => ∃ o m, β o = some (b, m), fun b h => .inr (.inr h)⟩ w F β ⟨xs ++ List.replicate (fn.ntmps - xs.length) .undef, [.row false τ0 n0 g0]⟩ { tmps := vs ++ Array.replicate (fn.ntmps - vs.size) Go.undef, defers := [] } w := by
  refine ⟨rfl, by simp; omega, fun i d hd => ?_, hobj, fun o b m hb => ⟨.inr ⟨o, m, hb⟩, (hnames o b m hb).1, (hnames o b m hb).2.1, (hnames o b m hb).2.2⟩, hinj, Keep.refl _ _ _, hF.lt, fun _ _ h => h, fun _ _ h => .inl h, fun o hlt => absurd hlt (Nat.not_lt_zero _), fun o hlt => absurd hlt (Nat.not_lt_zero _), hid_flat hh0 hdg0, hF.tw rfl (fun b hb off hf => by obtain ⟨o, m, hb⟩ := hb; exact (hnames o b m hb).2.1 off hf)⟩
  dsimp only at hd ⊢
  rw [List.getElem?_append] at hd
  split at hd
  ·rename_i hlt
   have h1 : i < vs.size := by omega
   have h2 : i < vs.size + (fn.ntmps - vs.size) := by omega
   have := hxs i d hd
   have e : (vs ++ Array.replicate (fn.ntmps - vs.size) Go.undef).getD i Go.undef = vs.getD i Go.undef := by simp [Array.getD, h1, h2]
   rw [e]; exact this
  ·rename_i hge
   rw [List.getElem?_replicate] at hd
   split at hd
   ·rename_i hlt
    simp at hd; subst hd
    have h1 : ¬ i < vs.size := by omega
    have h2 : i < vs.size + (fn.ntmps - vs.size) := by omega
    have e : (vs ++ Array.replicate (fn.ntmps - vs.size) Go.undef).getD i Go.undef = Go.undef := by simp [Array.getD, h1, h2, Array.getElem_append]
    rw [e]; exact .undef
   ·simp at hd
 refine code_wp hE hpc c 0 hlp _ _ F β _ _ w h0 hv (fun e F' β' s' a' w' hr hk => ?_)
 have fin : (match fn.results.toList with
   | [r] => (result E s' r).bind fun d => match d with
    | .os j n => (match obj s'.objs j with | .row false τ m g => out (.os 0 n) [.row false τ m g] | _ => none)
    | _ => none
   | _ => none) = some y → a'.defers = [] ∧ ∃ v, (Go.results fn a'.tmps).run P w' = .ok v w' ∧
   ∃ v' F'' β'', Ending.returned v = .returned v' ∧ Keep (fun b => ∃ o m, β o = some (b, m)) w.heap.size w w' ∧ (∀ b o, F b o → F'' b o) ∧ (∀ b o, F'' b o → F b o ∨ w.heap.size ≤ b ∨ ∃ i m, β i = some (b, m)) ∧ (∀ b o, F'' b o → b < w'.heap.size) ∧
   VRep E F'' w' β'' r v' ∧ (∀ o ob, outs[o]? = some ob → ∀ b m, β'' o = some (b, m) → ORep E F'' w' β'' b m ob) ∧
   (∀ o b m, β'' o = some (b, m) → b < w'.heap.size ∧ (∀ off, ¬ F'' b off) ∧ o < outs.length ∧ (w.heap.size ≤ b ∨ ∃ i m', β i = some (b, m'))) ∧ (∀ o o' b m m', β'' o = some (b, m) → β'' o' = some (b, m') → o = o') ∧ ∀ o q, β''.h o q = none := by
  intro hk
  split at hk
  rotate_left
  ·cases hk
  rename_i r0 hr0
  simp only [Option.bind_eq_some_iff] at hk
  obtain ⟨d, hd, hk⟩ := hk
  split at hk
  rotate_left
  ·cases hk
  rename_i j n
  split at hk
  rotate_left
  ·cases hk
  rename_i τ m g hob
  have hoo := obj_some hob (by simp)
  obtain ⟨h1, h2⟩ := hout _ _ hk
  subst h1; subst h2
  have hds : resM E s' fn.results.toList = some [.os j n] := by rw [hr0]; simp [resM, hd]
  obtain ⟨us, u1, u2, u3⟩ := resM_rep hE hr _ _ hds
  have hv : VRep E F' w' β' (.os j n) (retVal us) := by
   match us, u2, u3 with
   | [v], _, u3 => exact u3 0 _ rfl
  let β2 : Bet := ⟨fun k => if k = 0 then β' j else none, fun _ _ => none⟩
  have hβ2 : ∀ {k : Nat} {x}, β2 k = some x → k = 0 ∧ β' j = some x := fun {k x} hk => by
   have hk : (if k = 0 then β' j else none) = some x := hk
   split at hk
   ·rename_i e; exact ⟨e, hk⟩
   ·cases hk
  refine ⟨hr.defers, _, run_results u1, _, F', β2, rfl, hr.below, hr.frz1, hr.frz2, hr.frz, ?_, fun o ob ho b m' hb => ?_, fun o b m' hb => ?_, fun o o' b m1 m2 hb hb' => by rw [(hβ2 hb).1, (hβ2 hb').1], fun _ _ => rfl⟩
  ·generalize retVal us = v' at hv
   cases hv with
   | os _ _ cap b m' hb hc hl => exact .os 0 n cap b m' hb hc hl
   | os0 _ a'' k3 => exact .os0 0 a'' k3
  ·obtain ⟨rfl, hb⟩ := hβ2 hb
   simp only [List.getElem?_cons_zero, Option.some.injEq] at ho
   subst ho
   exact hr.objs j _ hoo b m' hb
  ·obtain ⟨rfl, hb⟩ := hβ2 hb
   obtain ⟨q1, q2, q3, _⟩ := hr.names j b m' hb
   exact ⟨q2, q3, Nat.zero_lt_one, q1⟩
 cases e with
 | normal => exact fin hk
 | ret => exact fin hk
 | exit i => simp [finishG] at hk
end Go.Proofs.Ytcmfekgdlaffkaa.Vm

