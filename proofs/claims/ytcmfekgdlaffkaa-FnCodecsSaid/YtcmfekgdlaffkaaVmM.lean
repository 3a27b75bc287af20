
/- The value machine: codes, loops and functions on the machine. Conditions: none. -/
import Derived.Test.YtcmfekgdlaffkaaVmL
namespace Go.Proofs.Ytcmfekgdlaffkaa.Vm
open Go Go.RowKit
set_option linter.unusedVariables false
set_option linter.unusedSimpArgs false
variable {RT : Type} {den : RT → Type} {E : Env RT den} {P : Program} {pc : Pc RT den}
theorem Rel.mask {F0 : Was} {w0 : World} {F : Frz} {β : Bet} {s : St RT den} {a : Act} {w : World} (h : Rel E F0 w0 F β s a w) : ∀ (l : List Nat), Rel E F0 w0 F β (s.mask l) a w
 | [] => h
 | i :: l => by
  have h1 : Rel E F0 w0 F β { s with slots := s.slots.set i .q } a w := by
   refine ⟨h.defers, by simp [h.size], fun j d hd => ?_, h.objs, h.names, h.inj, h.below, h.frz, h.frz1, h.frz2, h.place, h.placeH, h.hid, h.tab⟩
   by_cases hij : i = j
   ·subst hij
    have hl : i < s.slots.length := by
     have := (List.getElem?_eq_some_iff.1 hd).1
     simpa using this
    simp [hl] at hd
    subst hd
    exact .q _
   ·rw [List.getElem?_set_ne hij] at hd
    exact h.slots j d hd
  exact Rel.mask h1 l
theorem Rel.ownBox {F0 : Was} {w0 : World} {F : Frz} {β : Bet} {s : St RT den} {a : Act} {w : World} (h : Rel E F0 w0 F β s a w) (o j : Nat) : Rel E F0 w0 F β (St.ownBox E s o j) a w := by
 unfold St.ownBox
 split
 ·rename_i lb cs hob
  have hoo := obj_some hob (by simp)
  have hlt := (List.getElem?_eq_some_iff.1 hoo).1
  split
  ·rename_i z τ hj
   have hp := h.push [.row false τ 0 fun _ => E.dflt τ]
   refine ⟨hp.defers, hp.size, hp.slots, fun i ob hi b m hb => ?_, fun i b m hb => ?_, hp.inj, hp.below, hp.frz, hp.frz1, hp.frz2, fun o' hx => ⟨(hp.place o' hx).1, ?_⟩, h.placeH, ?_, h.tab⟩
   rotate_right
   ·refine h.hid.step (fun _ h => h) (fun _ _ h => h) (fun _ _ h => .inl h) (Keeps.refl _ _) (Nat.le_refl _) rfl (fun o b m hb => .inl ⟨m, hb⟩) (fun i ob hi hd => ?_) (fun i l τ' n p f hi b m hb => ?_) (fun _ _ _ _ _ => rfl) (by simp)
    ·show (s.objs.set o _ ++ _)[i]? = _
     have hli := (List.getElem?_eq_some_iff.1 hi).1
     rw [List.getElem?_append_left (by simpa using hli), List.getElem?_set_ne (fun e => by subst e; rw [hoo] at hi; cases hi; cases hd)]
     exact hi
    ·have hi : (s.objs.set o _ ++ _)[i]? = _ := hi
     have hli := (h.names i b m hb).2.2.2
     rw [List.getElem?_append_left (by simpa using hli)] at hi
     by_cases e : i = o
     ·subst e; simp [hlt] at hi
     ·rw [List.getElem?_set_ne (Ne.symm e)] at hi
      exact ⟨hi, hb, rfl⟩
   ·by_cases hio : i = o
    ·subst hio
     rw [List.getElem?_append_left (by simpa using hlt)] at hi
     simp [hlt] at hi
     subst hi
     obtain ⟨cur, e, hh, hs, hr⟩ := h.objs i _ hoo b m hb
     refine ⟨cur, e, hh, by simpa using hs, fun k c hc => ?_⟩
     by_cases hkj : k = j
     ·subst hkj
      have hl : k < cs.length := (List.getElem?_eq_some_iff.1 hj).1
      simp [hl] at hc
      subst hc
      have hv := hr k _ hj
      generalize cur.getD k Go.undef = v at hv ⊢
      cases hv with
      | emp z' τ' a' k1 k2 k3 => exact .os0 _ a' k3
     ·rw [List.getElem?_set_ne (Ne.symm hkj)] at hc
      exact hr k c hc
    ·refine hp.objs i ob ?_ b m hb
     by_cases hil : i < s.objs.length
     ·rw [List.getElem?_append_left (by simpa using hil), List.getElem?_set_ne (Ne.symm hio)] at hi
      show (s.objs ++ _)[i]? = _
      rw [List.getElem?_append_left hil]; exact hi
     ·rw [List.getElem?_append_right (by simpa using Nat.le_of_not_lt hil)] at hi
      show (s.objs ++ _)[i]? = _
      rw [List.getElem?_append_right (Nat.le_of_not_lt hil)]
      simpa using hi
   ·obtain ⟨n1, n2, n3, n4⟩ := h.names i b m hb
    exact ⟨n1, n2, n3, by simp; omega⟩
   ·obtain ⟨ob, h1, h2⟩ := (h.place o' hx).2
    have hl' := (List.getElem?_eq_some_iff.1 h1).1
    by_cases hne : o' = o
    ·subst hne
     rw [hoo] at h1; cases h1
     exact ⟨.box lb (cs.set j (.os s.objs.length 0)), by show (s.objs.set o' _ ++ _)[o']? = _; rw [List.getElem?_append_left (by simpa using hl'), List.getElem?_set_self hl'], h2⟩
    exact ⟨ob, by show (s.objs.set o _ ++ _)[o']? = _; rw [List.getElem?_append_left (by simpa using hl'), List.getElem?_set_ne (Ne.symm hne)]; exact h1, h2⟩
  ·exact h
 ·exact h
theorem Rel.deepen {F0 : Was} {w0 : World} {F : Frz} {β : Bet} {s : St RT den} {a : Act} {w : World} (h : Rel E F0 w0 F β s a w) (o : Nat) : Rel E F0 w0 F β (s.deepen o) a w := by
 unfold St.deepen
 split
 ·rename_i τ n f hob
  have hoo := obj_some hob (by simp)
  have hlt := (List.getElem?_eq_some_iff.1 hoo).1
  have hlive : s.objs[o]? ≠ some .gone := by rw [hoo]; simp
  have hno : ∀ q x, β.h o q ≠ some x := fun q x hx => by
   rcases h.hid.bound o q x hx with h9 | ⟨_, _, _, _, _, _, _, _, _, e3, _⟩
   ·exact hlive h9
   ·rw [hoo] at e3; cases e3
  have hs : ∀ (i : Nat), i ≠ o → (s.objs.set o (.deep false τ n 0 f))[i]? = s.objs[i]? := fun i hi => List.getElem?_set_ne (Ne.symm hi)
  have ho : (s.objs.set o (.deep false τ n 0 f))[o]? = some (.deep false τ n 0 f) := by simp [hlt]
  refine ⟨h.defers, h.size, h.slots, fun i ob hi b m hb => ?_, fun i b m hb => ?_, h.inj, h.below, h.frz, h.frz1, h.frz2, fun o' hx => ⟨(h.place o' hx).1, ?_⟩, h.placeH, ⟨h.hid.ok, fun i q b m hx => ?_, fun i q b m o' m' hx hx' => ?_, fun i q i' q' b m m' hx hx' hg hg' => ?_, fun i q x hx => ?_, fun i l τ' n' p f' hi b m hb => ?_⟩, h.tab⟩
  ·have hi : (s.objs.set o (.deep false τ n 0 f))[i]? = some ob := hi
   by_cases e : i = o
   ·subst e; rw [ho] at hi; cases hi; trivial
   ·rw [hs i e] at hi; exact h.objs i ob hi b m hb
  ·obtain ⟨h1, h2, h3, h4⟩ := h.names i b m hb
   exact ⟨h1, h2, h3, by simpa using h4⟩
  ·obtain ⟨ob, h1, h2⟩ := (h.place o' hx).2
   have hne : o' ≠ o := fun e => by subst e; rw [hoo] at h1; cases h1; cases h2
   exact ⟨ob, by show (s.objs.set o _)[o']? = _; rw [hs o' hne]; exact h1, h2⟩
  ·obtain ⟨h1, h2, h3⟩ := h.hid.names i q b m hx
   exact ⟨h1, h2, by simpa using h3⟩
  ·have := h.hid.real i q b m o' m' hx hx'
   show (s.objs.set o _)[o']? = _
   rw [hs o' (fun e => by subst e; exact hlive this)]; exact this
  ·have live : ∀ (i : Nat), (s.objs.set o (.deep false τ n 0 f))[i]? ≠ some Ob.gone → s.objs[i]? ≠ some Ob.gone := fun i hg e => hg (by rw [hs i (fun e' => by subst e'; exact hlive e)]; exact e)
   exact h.hid.inj i q i' q' b m m' hx hx' (live i hg) (live i' hg')
  ·have hne : i ≠ o := fun e => by subst e; exact hno q x hx
   show (s.objs.set o _)[i]? = _ ∨ ∃ i' q' l τ' n' p f', _ ∧ _ ∧ (s.objs.set o _)[i]? = _ ∧ _
   rw [hs i hne]
   exact h.hid.bound i q x hx
  ·have hi : (s.objs.set o (.deep false τ n 0 f))[i]? = _ := hi
   by_cases e : i = o
   ·subst e
    rw [ho] at hi; cases hi
    obtain ⟨k1, k2, cur, e, k3, k4, k5⟩ := h.objs i _ hoo b m hb
    exact ⟨k1, k2, Nat.zero_le _, cur, e, k3, k4, fun i j c hi hc => ⟨fun hp => absurd hp (Nat.not_lt_zero _), fun _ => k5 i j c hi hc⟩⟩
   ·rw [hs i e] at hi
    exact h.hid.reps i l τ' n' p f' hi b m hb
 ·exact h
theorem Rel.own1 {F0 : Was} {w0 : World} {F : Frz} {β : Bet} {s : St RT den} {a : Act} {w : World} (h : Rel E F0 w0 F β s a w) (i : Nat) : Rel E F0 w0 F β (St.own1 E s i) a w := by
 unfold St.own1
 cases hb5 : Nat.ble 5000000 i with
 | true => exact h.deepen _
 | false =>
 simp only [cond_false]
 cases hbl : Nat.ble 1000000 i with
 | true => exact h.ownBox _ _
 | false =>
 simp only [cond_false]
 split
 ·rename_i z τ hi
  have hp := h.push [.row false τ 0 fun _ => E.dflt τ]
  refine ⟨hp.defers, by simpa using hp.size, fun j d hd => ?_, hp.objs, hp.names, hp.inj, hp.below, hp.frz, hp.frz1, hp.frz2, hp.place, hp.placeH, hp.hid, h.tab⟩
  by_cases hij : i = j
  ·subst hij
   have hl : i < s.slots.length := (List.getElem?_eq_some_iff.1 hi).1
   simp [hl] at hd
   subst hd
   have hv := h.slots i _ hi
   generalize a.tmps.getD i Go.undef = v at hv ⊢
   cases hv with
   | emp z' τ' a' k1 k2 k3 => exact .os0 _ a' k3
  ·simp only [List.getElem?_set_ne hij] at hd
   exact h.slots j d hd
 ·exact h
theorem Rel.owns {F0 : Was} {w0 : World} {F : Frz} {β : Bet} {s : St RT den} {a : Act} {w : World} (h : Rel E F0 w0 F β s a w) : ∀ (l : List Nat), Rel E F0 w0 F β (St.own E s l) a w
 | [] => h
 | i :: l => Rel.owns (s := St.own1 E s i) (h.own1 i) l
theorem VRep.but {F : Frz} {w : World} {β β' : Bet} {o : Nat} (hβ : ∀ i y, i ≠ o → β i = some y → β' i = some y) (hh : ∀ i q y, i ≠ o → β.h i q = some y → β'.h i q = some y) {d : D RT den} {v : Value} (h : VRep E F w β d v) (hn : d.nxs o = false) : VRep E F w β' d v := h.away hβ hh hn
theorem VRep.frz {F F' : Frz} {w : World} {β β' : Bet} {o b : Nat} {m : Nat × Nat} {cs : List (D RT den)} {cur : Array Value} {e : TypeId} (hβ : ∀ i y, i ≠ o → β i = some y → β' i = some y) (hh' : β'.h = β.h) (hF : ∀ b o, F b o → F' b o) (hFb : ∀ off, F' b off)
  (hb : β o = some (b, m)) (hh : w.heap[b]? = some (.cells cur e (0, 0))) (hs : cur.size = cs.length) (hr : ∀ j c, cs[j]? = some c → VRep E F' w noBet c (cur.getD j Go.undef)) {d : D RT den} {v : Value} (h : VRep E F w β d v) (hd : d.okf o = true) : VRep E F' w β' (d.frz o cs) v := by
 unfold D.okf at hd
 cases hq : d.nxs o with
 | false =>
  have h1 := (h.but hβ (fun i q y _ hy => by rw [hh']; exact hy) hq).mono hF (Keeps.refl _ _) (Bet.le_refl _)
  cases d with
  | ref o' off =>
   simp only [D.nxs, decide_eq_false_iff_not] at hq
   have hne : Nat.beq o' o = false := by
    cases hbq : Nat.beq o' o with
    | false => rfl
    | true => exact absurd (Nat.eq_of_beq_eq_true hbq).symm hq
   simp only [D.frz, hne, cond_false]
   exact h1
  | _ => exact h1
 | true =>
  rw [hq] at hd
  simp only [Bool.not_true, Bool.false_or] at hd
  split at hd
  ·rename_i o' off
   simp only [D.nxs, decide_eq_true_eq] at hq
   subst hq
   simp only [D.frz, Nat.beq_refl, cond_true]
   cases h with
   | ref _ _ b' m' hb' =>
    rw [hb] at hb'
    cases hb'
    refine .rptr _ b off (fun j => cur.getD (off + j) Go.undef) (fun j c hc => ?_) (fun j hj => ⟨hFb _, ?_⟩)
    ·rw [List.getElem?_drop] at hc
     exact hr _ c hc
    ·refine cell_own hh ?_
     rw [List.length_drop] at hj
     omega
  ·cases hd
theorem VRep.frr {F F' : Frz} {w : World} {β β' : Bet} {o n : Nat} {τ : RT} {f : Nat → den τ} (hβ : ∀ i y, i ≠ o → β i = some y → β' i = some y) (hh' : β'.h = β.h) (hF : ∀ b o, F b o → F' b o)
  (hob : ∀ b m, β o = some (b, m) → ORep E F w β b m (.row false τ n f) ∧ ∀ off, F' b off) {d : D RT den} {v : Value} (h : VRep E F w β d v) (hd : d.okr o = true) : VRep E F' w β' (d.frr o τ f) v := by
 unfold D.okr at hd
 cases hq : d.nxs o with
 | false =>
  have h1 := (h.but hβ (fun i q y _ hy => by rw [hh']; exact hy) hq).mono hF (Keeps.refl _ _) (Bet.le_refl _)
  cases d with
  | os o' len =>
   simp only [D.nxs, decide_eq_false_iff_not] at hq
   have hne : Nat.beq o' o = false := by
    cases hbq : Nat.beq o' o with
    | false => rfl
    | true => exact absurd (Nat.eq_of_beq_eq_true hbq).symm hq
   simp only [D.frr, hne, cond_false]
   exact h1
  | _ => exact h1
 | true =>
  rw [hq] at hd
  simp only [Bool.not_true, Bool.false_or] at hd
  split at hd
  ·rename_i o' len
   simp only [D.nxs, decide_eq_true_eq] at hq
   subst hq
   simp only [D.frr, Nat.beq_refl, cond_true]
   cases h with
   | os _ _ cap b m hb hcap hlm =>
    obtain ⟨⟨hmn, ⟨hm1, hm2⟩, cur, e, hh, hsz, hr⟩, hFb⟩ := hob b m hb
    subst hmn
    refine .rs none τ len f _ cap b 0 (fun i j => cur.getD (i * E.size τ + j) Go.undef) (fun _ => rfl) (by simp) (by simp) (by simp [at']) hcap.1 (by simp) (fun i j c hi hc => ?_) (fun i j hi hj => ⟨hFb _, ?_⟩)
    ·exact (hr i j c (by omega) hc).mono hF (Keeps.refl _ _) (Bet.le_refl _)
    ·rw [Nat.zero_add]
     refine cell_own hh ?_
     have : (i + 1) * E.size τ ≤ m.2 * E.size τ := Nat.mul_le_mul_right _ (by omega)
     rw [Nat.add_mul] at this
     omega
   | os0 _ a' k3 => exact .rs none _ 0 _ a' 0 0 0 (fun _ _ => Go.undef) (fun h => absurd rfl h) (by simp) (by simp) (fun h => absurd rfl h) (Nat.le_refl _) (fun _ => rfl) (fun i j c hi => absurd hi (by omega)) (fun i j hi => absurd hi (by omega))
  ·rename_i hno
   have e : d.frr o τ f = d := by cases d <;> first | rfl | exact (hno _ _ rfl).elim
   rw [e]
   exact h.scalar hd
theorem Rel.freezeR {F0 : Was} {w0 : World} {F : Frz} {β : Bet} {s : St RT den} {a : Act} {w : World} (h : Rel E F0 w0 F β s a w) (o : Nat) : ∃ F' β', Rel E F0 w0 F' β' (St.frr1 s o) a w := by
 unfold St.frr1
 split
 ·rename_i τ n f hob
  have hoo := obj_some hob (by simp)
  cases hc : s.slots.all (D.okr o) && s.objs.all (okrO o) with
  | false => exact ⟨F, β, h⟩
  | true =>
   simp only [cond_true]
   simp only [Bool.and_eq_true, List.all_eq_true] at hc
   obtain ⟨c2, c3⟩ := hc
   let F' : Frz := fun b' off => F b' off ∨ ∃ m, β o = some (b', m)
   let β' : Bet := ⟨fun i => if i = o then none else β i, β.h⟩
   have hβ : ∀ i y, i ≠ o → β i = some y → β' i = some y := fun i y hi hy => by simp only [β', if_neg hi]; exact hy
   have hβ' : ∀ i y, β' i = some y → i ≠ o ∧ β i = some y := fun i y hy => by
    simp only [β'] at hy
    split at hy
    ·cases hy
    ·rename_i hne; exact ⟨hne, hy⟩
   have keep : ∀ {d : D RT den} {v : Value}, VRep E F w β d v → d.okr o = true → VRep E F' w β' (d.frr o τ f) v := fun hv hd => hv.frr (n := n) hβ rfl (fun _ _ => .inl) (fun b m hb => ⟨h.objs o _ hoo b m hb, fun _ => .inr ⟨m, hb⟩⟩) hd
   have hlow : ∀ b m, β o = some (b, m) → w0.heap.size ≤ b ∨ F0.giv b := fun b m hb => by
    rcases (h.names o b m hb).1 with n1 | n1
    ·exact .inl n1
    ·rcases F0.ok b n1 with ⟨o', m', hol, hb'⟩ | ⟨o', q, m', hol, hb'⟩ | hg9
     rotate_right
     ·exact .inr hg9
     ·obtain ⟨p1, ob, p2, p3⟩ := h.place o' hol
      have := h.inj o' o b m' m (p1.trans hb') hb
      subst this
      rw [hoo] at p2; cases p2; cases p3
     ·have := h.hid.real o' q b m' o m (by rw [h.placeH o' hol]; exact hb') hb
      rw [hoo] at this; cases this
   have hidn : Hid E (fun b => w0.heap.size ≤ b ∨ F0.lent b) F' β' ((s.objs.set o .gone).map (Ob.frr o τ f)) w := by
    refine h.hid.step (fun _ h => h) (fun _ _ => .inl) (fun b' off hf => ?_) (Keeps.refl _ _) (Nat.le_refl _) rfl (fun i b' m' hi => .inl ⟨m', (hβ' _ _ hi).2⟩) (fun i ob hi hd => ?_) (fun i l τ' n' p f' hi b' m' hb' => ?_) (fun _ _ _ _ _ => rfl) (by simp) (fun i y l τ' n' p f' hi hy => ⟨y, hβ i y (fun e => by subst e; rw [hoo] at hi; cases hi) hy⟩)
    ·rcases hf with hf | ⟨m', hf⟩
     ·exact .inl hf
     ·exact .inr (h.hid.off_real hf (by rw [hoo]; simp))
    ·rw [List.getElem?_map]
     by_cases e : i = o
     ·subst e; rw [hoo] at hi; cases hi; cases hd
     ·rw [List.getElem?_set_ne (Ne.symm e), hi]
      cases ob <;> first | rfl | cases hd
    ·simp only [List.getElem?_map, Option.map_eq_some_iff] at hi
     obtain ⟨ob0, hi, e0⟩ := hi
     have e1 : ob0 = .deep l τ' n' p f' := by cases ob0 <;> first | (simp only [Ob.frr] at e0; exact e0) | cases e0
     subst e1
     obtain ⟨hne, hb'⟩ := hβ' _ _ hb'
     rw [List.getElem?_set_ne (Ne.symm hne)] at hi
     exact ⟨hi, hb', rfl⟩
   refine ⟨F', β', h.defers, by simp [h.size], fun i d hd => ?_, fun i ob hi b' m' hbi => ?_, fun i b' m' hbi => ?_, fun i i' b' m1 m2 h1 h2 => h.inj i i' b' m1 m2 (hβ' _ _ h1).2 (hβ' _ _ h2).2, h.below, fun b' off hf => ?_, fun b' off hf => .inl (h.frz1 b' off hf), fun b' off hf => ?_, fun o' hx => ?_, h.placeH, hidn, h.tab⟩
   ·simp only [List.getElem?_map, Option.map_eq_some_iff] at hd
    obtain ⟨d0, hd0, rfl⟩ := hd
    exact keep (h.slots i d0 hd0) (c2 d0 (List.mem_of_getElem? hd0))
   ·simp only [List.getElem?_map, Option.map_eq_some_iff] at hi
    obtain ⟨ob0, hi, rfl⟩ := hi
    obtain ⟨hne, hbi⟩ := hβ' _ _ hbi
    rw [List.getElem?_set_ne (Ne.symm hne)] at hi
    have hold := h.objs i ob0 hi b' m' hbi
    have c4 := c3 ob0 (List.mem_of_getElem? hi)
    cases ob0 with
    | box lb l =>
     obtain ⟨cur', e', hh', hs', hr2⟩ := hold
     simp only [okrO, List.all_eq_true] at c4
     refine ⟨cur', e', hh', by simpa using hs', fun j c hcj => ?_⟩
     simp only [List.getElem?_map, Option.map_eq_some_iff] at hcj
     obtain ⟨d, hd, rfl⟩ := hcj
     exact keep (hr2 j d hd) (c4 d (List.mem_of_getElem? hd))
    | row l τ n f =>
     obtain ⟨q1, q2, cur', e', hh', hs', hr2⟩ := hold
     exact ⟨q1, q2, cur', e', hh', hs', fun i j c hi hc => (hr2 i j c hi hc).mono (fun _ _ => .inl) (Keeps.refl _ _) (Bet.le_refl _)⟩
    | deep => trivial
    | gone => trivial
   ·obtain ⟨hne, hbi⟩ := hβ' _ _ hbi
    obtain ⟨k1, k2, k3, k4⟩ := h.names i b' m' hbi
    refine ⟨k1, k2, fun off hf => ?_, by simpa using k4⟩
    rcases hf with hf | ⟨m, hf⟩
    ·exact k3 off hf
    ·exact hne (h.inj i o b' m' m hbi hf)
   ·rcases hf with hf | ⟨m, hf⟩
    ·exact h.frz b' off hf
    ·exact (h.names o b' m hf).2.1
   ·rcases hf with hf | ⟨m, hf⟩
    ·exact h.frz2 b' off hf
    ·exact .inr (hlow b' m hf)
   ·obtain ⟨p1, ob, p2, p3⟩ := h.place o' hx
    have hne : o' ≠ o := fun e => by subst e; rw [hoo] at p2; cases p2; cases p3
    refine ⟨by simp only [β', if_neg hne]; exact p1, ob.frr o τ f, ?_, by cases ob <;> exact p3⟩
    rw [List.getElem?_map, List.getElem?_set_ne (Ne.symm hne), p2]
    rfl
 ·exact ⟨F, β, h⟩
theorem VRep.hm1 {F : Frz} {w : World} {β : Bet} {o k : Nat} {d : D RT den} {v : Value} (h : VRep E F w β d v) (hne : o ≠ k) : VRep E F w ((β.putO o (β k)).putO k none) (d.hm1 o k) v := by
 by_cases hos : ∃ i len, d = .os i len
 ·obtain ⟨i, len, rfl⟩ := hos
  show VRep E F w _ (bif Nat.beq i k then .os o len else bif Nat.beq i o then .q else .os i len) v
  cases h1 : Nat.beq i k with
  | true =>
   have e : i = k := Nat.eq_of_beq_eq_true h1
   subst e
   rw [cond_true]
   cases h with
   | os _ _ cap b m hb hc hl => exact .os o len cap b m (by rw [Bet.putO_r, if_neg hne, Bet.putO_r, if_pos rfl]; exact hb) hc hl
   | os0 _ a' k3 => exact .os0 o a' k3
  | false =>
   have e : i ≠ k := Nat.ne_of_beq_eq_false h1
   rw [cond_false]
   cases h2 : Nat.beq i o with
   | true => exact .q _
   | false =>
    have e2 : i ≠ o := Nat.ne_of_beq_eq_false h2
    rw [cond_false]
    exact (h.off_flat (o := o) (by simp only [D.nx]; exact decide_eq_false (Ne.symm e2))).off_flat (o := k) (by simp only [D.nx]; exact decide_eq_false (Ne.symm e))
 ·have e : d.hm1 o k = bif d.nx o || d.nx k then .q else d := by cases d <;> first | rfl | exact absurd ⟨_, _, rfl⟩ hos
  rw [e]
  cases h1 : d.nx o || d.nx k with
  | true => exact .q _
  | false =>
   simp only [Bool.or_eq_false_iff] at h1
   rw [cond_false]
   exact (h.off_flat h1.1).off_flat h1.2
theorem VRep.hm {F : Frz} {w : World} {β : Bet} {o k : Nat} {d : D RT den} {v : Value} (h : VRep E F w β d v) (hne : o ≠ k) : VRep E F w ((β.putO o (β k)).putO k none) (d.hm o k) v := by
 by_cases hos : (∃ i len, d = .os i len) ∨ ∃ cs, d = .agg cs
 ·rcases hos with ⟨i, len, rfl⟩ | ⟨cs, rfl⟩
  ·exact h.hm1 hne
  ·cases h with
   | agg _ vs h1 h2 =>
    refine .agg _ vs (by simpa using h1) (fun j c hc => ?_)
    simp only [List.getElem?_map, Option.map_eq_some_iff] at hc
    obtain ⟨c0, hc0, rfl⟩ := hc
    exact (h2 j c0 hc0).hm1 hne
 ·have e : d.hm o k = bif d.nxs o || d.nxs k then .q else d := by cases d <;> first | rfl | exact absurd (.inl ⟨_, _, rfl⟩) hos | exact absurd (.inr ⟨_, rfl⟩) hos
  rw [e]
  cases h1 : d.nxs o || d.nxs k with
  | true => exact .q _
  | false =>
   simp only [Bool.or_eq_false_iff] at h1
   rw [cond_false]
   exact (h.off h1.1).off h1.2
theorem Rel.home {F0 : Was} {w0 : World} {F : Frz} {β : Bet} {s : St RT den} {a : Act} {w : World} (h : Rel E F0 w0 F β s a w) (o k : Nat) : ∃ F' β', Rel E F0 w0 F' β' (St.home s o k) a w := by
 unfold St.home
 cases hok : Nat.beq o k with
 | true => exact ⟨F, β, h⟩
 | false =>
 have hne : o ≠ k := Nat.ne_of_beq_eq_false hok
 rw [cond_false]
 split
 ·rename_i τ0 n0 f0 τ n f hob1 hob2
  have ho := obj_some hob1 (by simp)
  have hk := obj_some hob2 (by simp)
  let β' : Bet := (β.putO o (β k)).putO k none
  have bo : β' o = β k := by show (if o = k then none else if o = o then β k else β o) = _; rw [if_neg hne, if_pos rfl]
  have bk : β' k = none := by show (if k = k then none else _) = _; rw [if_pos rfl]
  have bi : ∀ i, i ≠ o → i ≠ k → β' i = β i := fun i h1 h2 => by show (if i = k then none else if i = o then β k else β i) = _; rw [if_neg h2, if_neg h1]
  have src : ∀ i y, β' i = some y → ∃ j, β j = some y ∧ (j = i ∧ i ≠ o ∧ i ≠ k ∨ i = o ∧ j = k) := fun i y hy => by
   by_cases e1 : i = k
   ·rw [e1, bk] at hy; cases hy
   ·by_cases e2 : i = o
    ·rw [e2, bo] at hy; exact ⟨k, hy, .inr ⟨e2, rfl⟩⟩
    ·rw [bi i e2 e1] at hy; exact ⟨i, hy, .inl ⟨rfl, e2, e1⟩⟩
  have get : ∀ i, i ≠ o → i ≠ k → (((s.objs.set o (.row false τ n f)).set k .gone).map (Ob.hm o k))[i]? = (s.objs[i]?).map (Ob.hm o k) := fun i h1 h2 => by
   rw [List.getElem?_map, List.getElem?_set_ne (Ne.symm h2), List.getElem?_set_ne (Ne.symm h1)]
  have gto : (((s.objs.set o (.row false τ n f)).set k .gone).map (Ob.hm o k))[o]? = some (.row false τ n f) := by
   rw [List.getElem?_map, List.getElem?_set_ne (Ne.symm hne), List.getElem?_set_self (List.getElem?_eq_some_iff.1 ho).1]; rfl
  have gtk : (((s.objs.set o (.row false τ n f)).set k .gone).map (Ob.hm o k))[k]? = some .gone := by
   rw [List.getElem?_map, List.getElem?_set_self (by rw [List.length_set]; exact (List.getElem?_eq_some_iff.1 hk).1)]; rfl
  have hidn : Hid E (fun b => w0.heap.size ≤ b ∨ F0.lent b) F β' (((s.objs.set o (.row false τ n f)).set k .gone).map (Ob.hm o k)) w := by
   refine h.hid.step (fun _ h => h) (fun _ _ h => h) (fun _ _ h => .inl h) (Keeps.refl _ _) (Nat.le_refl _) rfl (fun i b m hb => ?_) (fun i ob hi hd => ?_) (fun i l τ' n' p f' hi b m hb => ?_) (fun _ _ _ _ _ => rfl) (by simp) (fun i y l τ' n' p f' hi hy => ?_)
   ·obtain ⟨j, hj, ⟨rfl, _, _⟩ | ⟨rfl, rfl⟩⟩ := src i _ hb
    ·exact .inl ⟨m, hj⟩
    ·exact .inr (h.hid.off_real hj (by rw [hk]; simp))
   ·have h1 : i ≠ o := fun e => by subst e; rw [ho] at hi; cases hi; cases hd
    have h2 : i ≠ k := fun e => by subst e; rw [hk] at hi; cases hi; cases hd
    rw [get i h1 h2, hi]
    cases ob <;> first | rfl | cases hd
   ·have h1 : i ≠ o := fun e => by subst e; rw [gto] at hi; cases hi
    have h2 : i ≠ k := fun e => by subst e; rw [gtk] at hi; cases hi
    rw [get i h1 h2, Option.map_eq_some_iff] at hi
    obtain ⟨ob0, hi, e0⟩ := hi
    have e1 : ob0 = .deep l τ' n' p f' := by cases ob0 <;> first | (simp only [Ob.hm] at e0; exact e0) | cases e0
    subst e1
    rw [bi i h1 h2] at hb
    exact ⟨hi, hb, rfl⟩
   ·have h1 : i ≠ o := fun e => by subst e; rw [ho] at hi; cases hi
    have h2 : i ≠ k := fun e => by subst e; rw [hk] at hi; cases hi
    exact ⟨y, by rw [bi i h1 h2]; exact hy⟩
  refine ⟨F, β', h.defers, by simp [h.size], fun i d hd => ?_, fun i ob hi b m hb => ?_, fun i b m hb => ?_, fun i j b m1 m2 hi hj => ?_, h.below, h.frz, h.frz1, h.frz2, fun o' hx => ?_, h.placeH, hidn, h.tab⟩
  ·simp only [List.getElem?_map, Option.map_eq_some_iff] at hd
   obtain ⟨d0, hd0, rfl⟩ := hd
   exact (h.slots i d0 hd0).hm hne
  ·obtain ⟨j, hj, ⟨rfl, h1, h2⟩ | ⟨rfl, rfl⟩⟩ := src i _ hb
   ·rw [get j h1 h2, Option.map_eq_some_iff] at hi
    obtain ⟨ob0, hi, rfl⟩ := hi
    have hold := h.objs j ob0 hi b m hj
    cases ob0 with
    | box lb l =>
     obtain ⟨cur', e', hh', hs', hr2⟩ := hold
     refine ⟨cur', e', hh', by simpa using hs', fun x c hcj => ?_⟩
     simp only [List.getElem?_map, Option.map_eq_some_iff] at hcj
     obtain ⟨d, hd, rfl⟩ := hcj
     exact (hr2 x d hd).hm1 hne
    | row l τ n f => exact hold
    | deep => trivial
    | gone => trivial
   ·rw [gto] at hi; cases hi
    exact h.objs j _ hk b m hj
  ·obtain ⟨j, hj, hji⟩ := src i _ hb
   obtain ⟨k1, k2, k3, k4⟩ := h.names j b m hj
   refine ⟨k1, k2, k3, ?_⟩
   simp only [List.length_map, List.length_set]
   rcases hji with ⟨rfl, _, _⟩ | ⟨rfl, rfl⟩
   ·exact k4
   ·exact (List.getElem?_eq_some_iff.1 ho).1
  ·obtain ⟨i', hi', hji⟩ := src i _ hi
   obtain ⟨j', hj', hjj⟩ := src j _ hj
   have e := h.inj i' j' b m1 m2 hi' hj'
   rcases hji with ⟨rfl, _, q2⟩ | ⟨rfl, rfl⟩ <;> rcases hjj with ⟨rfl, _, q4⟩ | ⟨rfl, rfl⟩
   ·exact e
   ·exact absurd e q2
   ·exact absurd e.symm q4
   ·rfl
  ·obtain ⟨p1, ob, p2, p3⟩ := h.place o' hx
   have h1 : o' ≠ o := fun e => by subst e; rw [ho] at p2; cases p2; cases p3
   have h2 : o' ≠ k := fun e => by subst e; rw [hk] at p2; cases p2; cases p3
   refine ⟨by rw [bi o' h1 h2]; exact p1, ob.hm o k, ?_, by cases ob <;> exact p3⟩
   rw [get o' h1 h2, p2]; rfl
 ·exact ⟨F, β, h⟩
theorem Rel.freeze1 (hE : Ok E P) {F0 : Was} {w0 : World} {F : Frz} {β : Bet} {s : St RT den} {a : Act} {w : World} (h : Rel E F0 w0 F β s a w) (o : Nat) : ∃ F' β', Rel E F0 w0 F' β' (St.frz1 E s o) a w := by
 unfold St.frz1
 cases hbig : Nat.ble 1000000 o with
 | true => exact h.home _ _
 | false =>
 rw [cond_false]
 split
 ·exact h.freezeR o
 ·rename_i cs hob
  have hoo := obj_some hob (by simp)
  cases hc : cs.all D.pure && s.slots.all (D.okf o) && s.objs.all (fun ob => match ob with | .box _ l => l.all (fun d => D.okf o d && (d.isO || !d.nx o)) | _ => true) with
  | false => exact ⟨F, β, h⟩
  | true =>
   simp only [cond_true]
   simp only [Bool.and_eq_true, List.all_eq_true] at hc
   obtain ⟨⟨c1, c2⟩, c3⟩ := hc
   cases hb : β o with
   | none =>
    have hβ : ∀ i y, i ≠ o → β i = some y → β i = some y := fun _ _ _ h => h
    have keep : ∀ {d : D RT den} {v : Value}, VRep E F w β d v → d.okf o = true → VRep E F w β (d.frz o (cs.map (norm E))) v := by
     intro d v hv hd
     cases d with
     | ref o' off =>
      have hne : Nat.beq o' o = false := by
       cases hbq : Nat.beq o' o with
       | false => rfl
       | true =>
        have := Nat.eq_of_beq_eq_true hbq
        subst this
        cases hv with
        | ref _ _ b m hb' => rw [hb] at hb'; cases hb'
      simp only [D.frz, hne, cond_false]
      exact hv
     | _ => exact hv
    refine ⟨F, β, h.defers, by simp [h.size], fun i d hd => ?_, fun i ob hi b m hbi => ?_, fun i b m hbi => ?_, h.inj, h.below, h.frz, h.frz1, h.frz2, fun o' hx => ⟨(h.place o' hx).1, ?_⟩, h.placeH, ?_, h.tab⟩
    rotate_right
    ·refine h.hid.step (fun _ h => h) (fun _ _ h => h) (fun _ _ h => .inl h) (Keeps.refl _ _) (Nat.le_refl _) rfl (fun i b' m' hi => .inl ⟨m', hi⟩) (fun i ob hi hd => ?_) (fun i l τ' n' p f' hi b' m' hb' => ?_) (fun _ _ _ _ _ => rfl) (by simp)
     ·show ((s.objs.set o .gone).map (Ob.frz o _))[i]? = _
      rw [List.getElem?_map]
      by_cases e : i = o
      ·subst e; rw [hoo] at hi; cases hi; cases hd
      ·rw [List.getElem?_set_ne (Ne.symm e), hi]
       cases ob <;> first | rfl | cases hd
     ·have hi : ((s.objs.set o .gone).map (Ob.frz o (cs.map (norm E))))[i]? = _ := hi
      simp only [List.getElem?_map, Option.map_eq_some_iff] at hi
      obtain ⟨ob0, hi, e0⟩ := hi
      have e1 : ob0 = .deep l τ' n' p f' := by cases ob0 <;> first | (simp only [Ob.frz] at e0; exact e0) | cases e0
      subst e1
      have hne : i ≠ o := fun e => by subst e; rw [hb] at hb'; cases hb'
      rw [List.getElem?_set_ne (Ne.symm hne)] at hi
      exact ⟨hi, hb', rfl⟩
    ·simp only [List.getElem?_map, Option.map_eq_some_iff] at hd
     obtain ⟨d0, hd0, rfl⟩ := hd
     exact keep (h.slots i d0 hd0) (c2 d0 (List.mem_of_getElem? hd0))
    ·simp only [List.getElem?_map, Option.map_eq_some_iff] at hi
     obtain ⟨ob0, hi, rfl⟩ := hi
     have hne : i ≠ o := fun e => by subst e; rw [hb] at hbi; cases hbi
     rw [List.getElem?_set_ne (Ne.symm hne)] at hi
     have hold := h.objs i ob0 hi b m hbi
     have c4 := c3 ob0 (List.mem_of_getElem? hi)
     cases ob0 with
     | box lb l =>
      obtain ⟨cur, e, hh, hs, hr⟩ := hold
      simp only [List.all_eq_true, Bool.and_eq_true] at c4
      refine ⟨cur, e, hh, by simpa using hs, fun j c hcj => ?_⟩
      simp only [List.getElem?_map, Option.map_eq_some_iff] at hcj
      obtain ⟨d, hd, rfl⟩ := hcj
      exact keep (hr j d hd) (c4 d (List.mem_of_getElem? hd)).1
     | row l τ n f => exact hold
     | deep => trivial
     | gone => trivial
    ·obtain ⟨n1, n2, n3, n4⟩ := h.names i b m hbi
     exact ⟨n1, n2, n3, by simpa using n4⟩
    ·obtain ⟨ob, h1, h2⟩ := (h.place o' hx).2
     have hne : o' ≠ o := fun e => by subst e; rw [hoo] at h1; cases h1; cases h2
     refine ⟨ob.frz o (cs.map (norm E)), ?_, by cases ob <;> exact h2⟩
     rw [List.getElem?_map, List.getElem?_set_ne (Ne.symm hne), h1]
     rfl
   | some x =>
    obtain ⟨b, m⟩ := x
    obtain ⟨cur, e, hh, hs, hr⟩ := h.objs o _ hoo b m hb
    obtain ⟨n1, n2, n3, n4⟩ := h.names o b m hb
    let F' : Frz := fun b' off => F b' off ∨ b' = b
    let β' : Bet := ⟨fun i => if i = o then none else β i, β.h⟩
    have hβ : ∀ i y, i ≠ o → β i = some y → β' i = some y := fun i y hi hy => by simp only [β', if_neg hi]; exact hy
    have hβ' : ∀ i y, β' i = some y → i ≠ o ∧ β i = some y := fun i y hy => by
     simp only [β'] at hy
     split at hy
     ·cases hy
     ·rename_i hne; exact ⟨hne, hy⟩
    have hr' : ∀ j c, (cs.map (norm E))[j]? = some c → VRep E F' w noBet c (cur.getD j Go.undef) := fun j c hc => by
     simp only [List.getElem?_map, Option.map_eq_some_iff] at hc
     obtain ⟨d, hd, rfl⟩ := hc
     exact norm_rep (((hr j d hd).pure (c1 d (List.mem_of_getElem? hd))).mono (fun _ _ => .inl) (Keeps.refl _ _) (Bet.le_refl _))
    have keep : ∀ {d : D RT den} {v : Value}, VRep E F w β d v → d.okf o = true → VRep E F' w β' (d.frz o (cs.map (norm E))) v := fun hv hd => hv.frz hβ rfl (fun _ _ => .inl) (fun _ => .inr rfl) hb hh (by simpa using hs) hr' hd
    have hlow : w0.heap.size ≤ b ∨ F0.giv b := by
     rcases n1 with n1 | n1
     ·exact .inl n1
     ·rcases F0.ok b n1 with ⟨o', m', hol, hb'⟩ | ⟨o', q, m', hol, hb'⟩ | hg9
      rotate_right
      ·exact .inr hg9
      ·obtain ⟨p1, ob, p2, p3⟩ := h.place o' hol
       have := h.inj o' o b m' m (p1.trans hb') hb
       subst this
       rw [hoo] at p2; cases p2; cases p3
      ·have := h.hid.real o' q b m' o m (by rw [h.placeH o' hol]; exact hb') hb
       rw [hoo] at this; cases this
    have hidn : Hid E (fun b => w0.heap.size ≤ b ∨ F0.lent b) F' β' ((s.objs.set o .gone).map (Ob.frz o (cs.map (norm E)))) w := by
     refine h.hid.step (fun _ h => h) (fun _ _ => .inl) (fun b' off hf => ?_) (Keeps.refl _ _) (Nat.le_refl _) rfl (fun i b' m' hi => .inl ⟨m', (hβ' _ _ hi).2⟩) (fun i ob hi hd => ?_) (fun i l τ' n' p f' hi b' m' hb' => ?_) (fun _ _ _ _ _ => rfl) (by simp) (fun i y l τ' n' p f' hi hy => ⟨y, hβ i y (fun e => by subst e; rw [hoo] at hi; cases hi) hy⟩)
     ·rcases hf with hf | hf
      ·exact .inl hf
      ·subst hf; exact .inr (h.hid.off_real hb (by rw [hoo]; simp))
     ·rw [List.getElem?_map]
      by_cases e : i = o
      ·subst e; rw [hoo] at hi; cases hi; cases hd
      ·rw [List.getElem?_set_ne (Ne.symm e), hi]
       cases ob <;> first | rfl | cases hd
     ·simp only [List.getElem?_map, Option.map_eq_some_iff] at hi
      obtain ⟨ob0, hi, e0⟩ := hi
      have e1 : ob0 = .deep l τ' n' p f' := by cases ob0 <;> first | (simp only [Ob.frz] at e0; exact e0) | cases e0
      subst e1
      obtain ⟨hne, hb'⟩ := hβ' _ _ hb'
      rw [List.getElem?_set_ne (Ne.symm hne)] at hi
      exact ⟨hi, hb', rfl⟩
    refine ⟨F', β', h.defers, by simp [h.size], fun i d hd => ?_, fun i ob hi b' m' hbi => ?_, fun i b' m' hbi => ?_, fun i i' b' m1 m2 h1 h2 => h.inj i i' b' m1 m2 (hβ' _ _ h1).2 (hβ' _ _ h2).2, h.below, fun b' off hf => ?_, fun b' off hf => .inl (h.frz1 b' off hf), fun b' off hf => ?_, fun o' hx => ?_, h.placeH, hidn, h.tab⟩
    ·simp only [List.getElem?_map, Option.map_eq_some_iff] at hd
     obtain ⟨d0, hd0, rfl⟩ := hd
     exact keep (h.slots i d0 hd0) (c2 d0 (List.mem_of_getElem? hd0))
    ·simp only [List.getElem?_map, Option.map_eq_some_iff] at hi
     obtain ⟨ob0, hi, rfl⟩ := hi
     obtain ⟨hne, hbi⟩ := hβ' _ _ hbi
     rw [List.getElem?_set_ne (Ne.symm hne)] at hi
     have hold := h.objs i ob0 hi b' m' hbi
     have c4 := c3 ob0 (List.mem_of_getElem? hi)
     cases ob0 with
     | box lb l =>
      obtain ⟨cur', e', hh', hs', hr2⟩ := hold
      simp only [List.all_eq_true, Bool.and_eq_true] at c4
      refine ⟨cur', e', hh', by simpa using hs', fun j c hcj => ?_⟩
      simp only [List.getElem?_map, Option.map_eq_some_iff] at hcj
      obtain ⟨d, hd, rfl⟩ := hcj
      exact keep (hr2 j d hd) (c4 d (List.mem_of_getElem? hd)).1
     | row l τ n f =>
      obtain ⟨q1, q2, cur', e', hh', hs', hr2⟩ := hold
      exact ⟨q1, q2, cur', e', hh', hs', fun i j c hi hc => (hr2 i j c hi hc).mono (fun _ _ => .inl) (Keeps.refl _ _) (Bet.le_refl _)⟩
     | deep => trivial
     | gone => trivial
    ·obtain ⟨hne, hbi⟩ := hβ' _ _ hbi
     obtain ⟨k1, k2, k3, k4⟩ := h.names i b' m' hbi
     refine ⟨k1, k2, fun off hf => ?_, by simpa using k4⟩
     rcases hf with hf | hf
     ·exact k3 off hf
     ·subst hf; exact hne (h.inj i o b' m' m hbi hb)
    ·rcases hf with hf | rfl
     ·exact h.frz b' off hf
     ·exact n2
    ·rcases hf with hf | rfl
     ·exact h.frz2 b' off hf
     ·exact .inr hlow
    ·obtain ⟨p1, ob, p2, p3⟩ := h.place o' hx
     have hne : o' ≠ o := fun e => by subst e; rw [hoo] at p2; cases p2; cases p3
     refine ⟨by simp only [β', if_neg hne]; exact p1, ob.frz o (cs.map (norm E)), ?_, by cases ob <;> exact p3⟩
     rw [List.getElem?_map, List.getElem?_set_ne (Ne.symm hne), p2]
     rfl
 ·exact ⟨F, β, h⟩
theorem Rel.freezes (hE : Ok E P) {F0 : Was} {w0 : World} {F : Frz} {β : Bet} {s : St RT den} {a : Act} {w : World} (h : Rel E F0 w0 F β s a w) : ∀ (l : List Nat), ∃ F' β', Rel E F0 w0 F' β' (St.frzs E s l) a w
 | [] => ⟨F, β, h⟩
 | o :: l => by
  obtain ⟨F', β', h1⟩ := h.freeze1 hE o
  exact Rel.freezes hE (s := St.frz1 E s o) h1 l
def Bet.upto (β : Bet) (n : Nat) : Bet := ⟨fun i => if i < n then β i else none, fun i q => if i < n then β.h i q else none⟩
theorem Bet.upto_r (β : Bet) (n i : Nat) : (β.upto n) i = if i < n then β i else none := rfl
theorem Bet.upto_h (β : Bet) (n i : Nat) (q : List Nat) : (β.upto n).h i q = if i < n then β.h i q else none := rfl
theorem upto_h_some {β : Bet} {n o : Nat} {q : List Nat} {b : Nat × (Nat × Nat)} (h : β.h o q = some b) (hn : decide (n ≤ o) = false) : (β.upto n).h o q = some b := by
 have h1 : ¬ n ≤ o := of_decide_eq_false hn
 rw [Bet.upto_h, if_pos (by omega)]
 exact h
theorem upto_some {β : Bet} {n o : Nat} {b : Nat × (Nat × Nat)} (h : β o = some b) (hn : decide (n ≤ o) = false) : β.upto n o = some b := by
 have h1 : ¬ n ≤ o := of_decide_eq_false hn
 rw [Bet.upto_r, if_pos (by omega)]
 exact h
theorem VRep.upto_flat {F : Frz} {w : World} {β : Bet} {n : Nat} {d : D RT den} {v : Value} (h : VRep E F w β d v)
  (hn : d.nm n = false) : VRep E F w (β.upto n) d v := by
 cases h with
 | ref o off b m hb => exact .ref o off b m (upto_some hb hn)
 | eref o sz j off b m hb hj => exact .eref o sz j off b m (upto_some hb hn) hj
 | os o len cap b m hb hc hl => exact .os o len cap b m (upto_some hb hn) hc hl
 | os0 o a' k3 => exact .os0 o a' k3
 | osn o i j len cap b m hb hc hl => exact .osn o i j len cap b m (upto_h_some hb hn) hc hl
 | osn0 o i j a' k3 => exact .osn0 o i j a' k3
 | osp o sz off len cap b m hb hc hl => exact .osp o sz off len cap b m (upto_some hb hn) hc hl
 | osp0 o sz off a' k3 => exact .osp0 o sz off a' k3
 | lit τ cs b o u k0 k1 k2 => simp [D.nm] at hn
 | fn f cap vs h1 h2 =>
  cases cap with
  | nil => exact .fn f [] vs h1 (fun j c hc => by simp at hc)
  | cons x l => simp [D.nm] at hn
 | agg cs vs h1 h2 => simp [D.nm] at hn
 | tup cs vs h1 h2 => simp [D.nm] at hn
 | int k n => exact .int k n
 | bool b => exact .bool b
 | str b => exact .str b
 | undef => exact .undef
 | q v => exact .q _
 | nil => exact .nil
 | emp z τ a' k1 k2 k3 => exact .emp z τ a' k1 k2 k3
 | rptr cs b o u k1 k2 => exact .rptr cs b o u k1 k2
 | rs z τ n f a' cap b o u k1 k2 k3 k4 k5 k6 k7 k8 => exact .rs z τ n f a' cap b o u k1 k2 k3 k4 k5 k6 k7 k8
theorem VRep.upto {F : Frz} {w : World} {β : Bet} {n : Nat} {d : D RT den} {v : Value} (h : VRep E F w β d v) (hn : d.names n = false) : VRep E F w (β.upto n) d v := by
 cases h with
 | agg cs vs h1 h2 =>
  simp only [D.names, List.any_eq_false] at hn
  exact .agg cs vs h1 (fun j c hc => (h2 j c hc).upto_flat ((Bool.not_eq_true _).mp (hn c (getD_mem hc))))
 | tup cs vs h1 h2 =>
  cases cs with
  | nil => exact .tup [] vs h1 (fun j c hc => by simp at hc)
  | cons x l => simp [D.names] at hn
 | fn f cap vs h1 h2 =>
  simp only [D.names, List.any_eq_false] at hn
  refine .fn f cap vs h1 (fun j c hc => ?_)
  have hq := (Bool.not_eq_true _).mp (hn c (getD_mem hc))
  have hv := h2 j c hc
  generalize vs.getD j Go.undef = v at hv ⊢
  cases hv with
  | agg cs ws k1 k2 =>
   simp only [D.nmc, List.any_eq_false] at hq
   exact .agg cs ws k1 (fun i c' hc' => (k2 i c' hc').upto_flat ((Bool.not_eq_true _).mp (hq c' (getD_mem hc'))))
  | int k n => exact .int k n
  | bool b => exact .bool b
  | str b => exact .str b
  | undef => exact .undef
  | q v => exact .q _
  | nil => exact .nil
  | ref o off b m hb => exact (VRep.ref o off b m hb).upto_flat hq
  | eref o sz i off b m hb hi => exact (VRep.eref o sz i off b m hb hi).upto_flat hq
  | os o len cap b m hb hcc hl => exact (VRep.os o len cap b m hb hcc hl).upto_flat hq
  | os0 o a' k3 => exact .os0 o a' k3
  | osn o i j len cap b m hb hcc hl => exact (VRep.osn o i j len cap b m hb hcc hl).upto_flat hq
  | osn0 o i j a' k3 => exact .osn0 o i j a' k3
  | osp o sz off len cap b m hb hcc hl => exact (VRep.osp o sz off len cap b m hb hcc hl).upto_flat hq
  | osp0 o sz off a' k3 => exact .osp0 o sz off a' k3
  | lit τ cs b o u k0 k1 k2 => simp [D.nmc, D.nm] at hq
  | emp z τ a' k1 k2 k3 => exact .emp z τ a' k1 k2 k3
  | rptr cs b o u k1 k2 => exact .rptr cs b o u k1 k2
  | rs z τ n f a' cap b o u k1 k2 k3 k4 k5 k6 k7 k8 => exact .rs z τ n f a' cap b o u k1 k2 k3 k4 k5 k6 k7 k8
  | fn f' cap' vs' k1 k2 => exact (VRep.fn f' cap' vs' k1 k2).upto_flat hq
  | tup cs ws k1 k2 => exact (VRep.tup cs ws k1 k2).upto_flat hq
 | ref o off b m hb => exact .ref o off b m (upto_some hb hn)
 | eref o sz j off b m hb hj => exact .eref o sz j off b m (upto_some hb hn) hj
 | os o len cap b m hb hc hl => exact .os o len cap b m (upto_some hb hn) hc hl
 | os0 o a' k3 => exact .os0 o a' k3
 | osn o i j len cap b m hb hc hl => exact .osn o i j len cap b m (upto_h_some hb hn) hc hl
 | osn0 o i j a' k3 => exact .osn0 o i j a' k3
 | osp o sz off len cap b m hb hc hl => exact .osp o sz off len cap b m (upto_some hb hn) hc hl
 | osp0 o sz off a' k3 => exact .osp0 o sz off a' k3
 | lit τ cs b o u k0 k1 k2 =>
  simp only [D.names, List.any_eq_false] at hn
  exact .lit τ cs b o u k0 (fun j c hc => (k1 j c hc).upto_flat ((Bool.not_eq_true _).mp (hn c (getD_mem hc)))) k2
 | int k n => exact .int k n
 | bool b => exact .bool b
 | str b => exact .str b
 | undef => exact .undef
 | q v => exact .q _
 | nil => exact .nil
 | emp z τ a' k1 k2 k3 => exact .emp z τ a' k1 k2 k3
 | rptr cs b o u k1 k2 => exact .rptr cs b o u k1 k2
 | rs z τ n f a' cap b o u k1 k2 k3 k4 k5 k6 k7 k8 => exact .rs z τ n f a' cap b o u k1 k2 k3 k4 k5 k6 k7 k8
theorem Rel.cut {F0 : Was} {w0 : World} {F : Frz} {β : Bet} {s s' : St RT den} {a : Act} {w : World} {n : Nat} (h : Rel E F0 w0 F β s a w) (hc : s.cut n = some s') : Rel E F0 w0 F (β.upto n) s' a w := by
 rw [St.cut, Bool.cond_eq_ite] at hc
 split at hc
 ·rename_i hq
  have hc := Option.some.inj hc; subst hc
  simp only [Bool.and_eq_true, List.all_eq_true] at hq
  obtain ⟨⟨q1, q2⟩, q3⟩ := hq
  refine ⟨h.defers, h.size, fun i d hd => (h.slots i d hd).upto (by simpa using q1 d (getD_mem hd)), fun o ob ho b m hb => ?_, fun o b m hb => ?_, fun o o' b m m' hb hb' => ?_, h.below, h.frz, h.frz1, h.frz2, fun o hx => ?_, fun o hx => ?_, ?_, h.tab⟩
  rotate_right
  ·have ht : ∀ o, o < n → (s.objs.take n)[o]? = s.objs[o]? := fun o ho => by rw [List.getElem?_take, if_pos ho]
   have hh : ∀ {o q x}, (β.upto n).h o q = some x → o < n ∧ β.h o q = some x := fun {o q x} hx => by
    rw [Bet.upto_h] at hx
    split at hx
    ·rename_i hlt; exact ⟨hlt, hx⟩
    ·cases hx
   have hr : ∀ {o x}, (β.upto n) o = some x → o < n ∧ β o = some x := fun {o x} hx => by
    rw [Bet.upto_r] at hx
    split at hx
    ·rename_i hlt; exact ⟨hlt, hx⟩
    ·cases hx
   refine ⟨fun o q b m hx => h.hid.ok o q b m (hh hx).2, fun o q b m hx => ?_, fun o q b m o' m' hx hx' => ?_, fun o q o' q' b m m' hx hx' hg hg' => ?_, fun o q x hx => ?_, fun o l τ n' p f ho b m hb => ?_⟩
   ·obtain ⟨h1, h2⟩ := hh hx
    obtain ⟨n1, n2, n3⟩ := h.hid.names o q b m h2
    exact ⟨n1, n2, by show o < (s.objs.take n).length; simp; omega⟩
   ·show (s.objs.take n)[o']? = _
    rw [ht o' (hr hx').1]
    exact h.hid.real o q b m o' m' (hh hx).2 (hr hx').2
   ·have hg : (s.objs.take n)[o]? ≠ _ := hg
    have hg' : (s.objs.take n)[o']? ≠ _ := hg'
    rw [ht _ (hh hx).1] at hg
    rw [ht _ (hh hx').1] at hg'
    exact h.hid.inj o q o' q' b m m' (hh hx).2 (hh hx').2 hg hg'
   ·show (s.objs.take n)[o]? = _ ∨ ∃ i q' l τ n' p f, _ ∧ _ ∧ (s.objs.take n)[o]? = _ ∧ _
    rw [ht _ (hh hx).1]
    rcases h.hid.bound o q x (hh hx).2 with h9 | ⟨i, q', l, τ, n', p, f, e1, e2, e3, y, e4⟩
    ·exact .inl h9
    ·exact .inr ⟨i, q', l, τ, n', p, f, e1, e2, e3, y, by rw [Bet.upto_r, if_pos (hh hx).1]; exact e4⟩
   ·have ho : (s.objs.take n)[o]? = _ := ho
    obtain ⟨hlt, hb⟩ := hr hb
    rw [ht o hlt] at ho
    exact (h.hid.reps o l τ n' p f ho b m hb).mono (fun _ _ h => h) (Keeps.refl _ _) rfl (fun q => by rw [Bet.upto_h, if_pos hlt]) (fun _ _ _ _ => rfl)
  rotate_right
  ·obtain ⟨h1, ob, h2, h3⟩ := h.place o hx
   have hlt : o < n := by
    by_cases hon : o < n
    ·exact hon
    ·exfalso
     have hm : ob ∈ s.objs.drop n := by
      rw [List.mem_iff_getElem?]
      exact ⟨o - n, by rw [List.getElem?_drop, show n + (o - n) = o by omega]; exact h2⟩
     have := q3 ob hm
     rw [h3] at this; cases this
   rw [← h.placeH o hx]
   funext q
   rw [Bet.upto_h, if_pos hlt]
  rotate_right
  ·obtain ⟨h1, ob, h2, h3⟩ := h.place o hx
   have hlt : o < n := by
    by_cases hon : o < n
    ·exact hon
    ·exfalso
     have hm : ob ∈ s.objs.drop n := by
      rw [List.mem_iff_getElem?]
      exact ⟨o - n, by rw [List.getElem?_drop, show n + (o - n) = o by omega]; exact h2⟩
     have := q3 ob hm
     rw [h3] at this; cases this
   exact ⟨by rw [Bet.upto_r, if_pos hlt]; exact h1, ob, by show (s.objs.take n)[o]? = _; rw [List.getElem?_take, if_pos hlt]; exact h2, h3⟩
  ·rw [Bet.upto_r] at hb
   split at hb
   ·rename_i hlt
    dsimp only at ho
    have hm := getD_mem ho
    rw [List.getElem?_take, if_pos hlt] at ho
    have := h.objs o ob ho b m hb
    cases ob with
    | box lb cs =>
     obtain ⟨cur, e, hh, hs, hr⟩ := this
     have hb2 := q2 _ hm
     simp only [List.all_eq_true] at hb2
     exact ⟨cur, e, hh, hs, fun j c hcj => (hr j c hcj).upto (by simpa using hb2 c (getD_mem hcj))⟩
    | row l τ m f => exact this
    | deep => trivial
    | gone => trivial
   ·simp at hb
  ·rw [Bet.upto_r] at hb
   split at hb
   ·rename_i hlt
    obtain ⟨h1, h2, h3, h4⟩ := h.names o b m hb
    exact ⟨h1, h2, h3, by simp; omega⟩
   ·simp at hb
  ·rw [Bet.upto_r] at hb hb'
   split at hb <;> split at hb' <;> first | exact h.inj o o' b m m' hb hb' | (simp at hb; done) | (simp at hb'; done)
 ·simp at hc
def LpOk (E : Env RT den) (pc : Pc RT den) {ρ : Type} : Nat → (Nat → List Nat) → Lp RT den ρ → List (Nat × Code) → Prop
 | 0, msk, lp, l => (∀ p ∈ l, ∀ s k r, lp.lp p.1 s k = some r → ∃ fuel, iter (msk p.1) (msk (p.1 + 100000)) s.objs.length (evCode E pc msk lp p.1 p.2) fuel s k = some r) ∧ ∀ site f s k r, lp.inl site f s k ≠ some r
 | d + 1, msk, lp, l => (∀ p ∈ l, ∀ s k r, lp.lp p.1 s k = some r → ∃ fuel, iter (msk p.1) (msk (p.1 + 100000)) s.objs.length (evCode E pc msk lp p.1 p.2) fuel s k = some r) ∧
   ∀ site f s k r, lp.inl site f s k = some r → ∃ fn c msk' lp', E.fn f = some fn ∧ fn.body = some c ∧ (fn.name == "runtime.NumGoroutine") = false ∧ codeIn fn.ntmps c = true ∧ LpOk E pc d msk' lp' (loops 0 c) ∧ evCode E pc msk' lp' 0 c s k = some r
theorem LpOk.loops {d : Nat} {msk : Nat → List Nat} {ρ : Type} {lp : Lp RT den ρ} {l : List (Nat × Code)} (h : LpOk E pc d msk lp l) : ∀ p ∈ l, ∀ s k r, lp.lp p.1 s k = some r → ∃ fuel, iter (msk p.1) (msk (p.1 + 100000)) s.objs.length (evCode E pc msk lp p.1 p.2) fuel s k = some r := by
 cases d with
 | zero => exact h.1
 | succ d => exact h.1
theorem LpOk.step : ∀ {d : Nat} {msk : Nat → List Nat} {ρ : Type} {lp : Lp RT den ρ} {l : List (Nat × Code)}, LpOk E pc d msk lp l → LpOk E pc (d + 1) msk lp l
 | 0, msk, ρ, lp, l, h => ⟨h.1, fun site f s k r hv => absurd hv (h.2 site f s k r)⟩
 | d + 1, msk, ρ, lp, l, h => ⟨h.1, fun site f s k r hv => by
   obtain ⟨fn, c, msk', lp', h1, h2, h3, h4, h5, h6⟩ := h.2 site f s k r hv
   exact ⟨fn, c, msk', lp', h1, h2, h3, h4, LpOk.step h5, h6⟩⟩
theorem LpOk.mono {d d' : Nat} (hd : d ≤ d') {msk : Nat → List Nat} {ρ : Type} {lp : Lp RT den ρ} {l : List (Nat × Code)} (h : LpOk E pc d msk lp l) : LpOk E pc d' msk lp l := by
 induction hd with
 | refl => exact h
 | step _ ih => exact ih.step
def inl0 {ρ : Type} : Nat → Nat → St RT den → (Ex → St RT den → Option ρ) → Option ρ := fun _ _ _ _ => none
def inlL {ρ : Type} (l : List (Nat × (St RT den → (Ex → St RT den → Option ρ) → Option ρ))) (site f : Nat) (s : St RT den) (k : Ex → St RT den → Option ρ) : Option ρ :=
 match (l.drop site).head? with
 | some p => bif Nat.beq p.1 f then p.2 s k else none
 | none => none
def LoopsOk (E : Env RT den) (pc : Pc RT den) {ρ : Type} (msk : Nat → List Nat) (lp : Lp RT den ρ) (l : List (Nat × Code)) : Prop :=
 ∀ p ∈ l, ∀ s k r, lp.lp p.1 s k = some r → ∃ fuel, iter (msk p.1) (msk (p.1 + 100000)) s.objs.length (evCode E pc msk lp p.1 p.2) fuel s k = some r
def SitesOk (E : Env RT den) (pc : Pc RT den) {ρ : Type} (d : Nat) (l : List (Nat × (St RT den → (Ex → St RT den → Option ρ) → Option ρ))) : Prop :=
 ∀ p ∈ l, ∃ fn c msk' lp', E.fn p.1 = some fn ∧ fn.body = some c ∧ (fn.name == "runtime.NumGoroutine") = false ∧ codeIn fn.ntmps c = true ∧ LpOk E pc d msk' lp' (loops 0 c) ∧ p.2 = evCode E pc msk' lp' 0 c
theorem lp_nil {msk : Nat → List Nat} {ρ : Type} {lp : Lp RT den ρ} {l : List (Nat × Code)} (h : LoopsOk E pc msk lp l) (hi : lp.inl = inl0) : LpOk E pc 0 msk lp l := ⟨h, fun site f s k r hv => by rw [hi] at hv; cases hv⟩
theorem lp_all {d : Nat} {msk : Nat → List Nat} {ρ : Type} {lp : Lp RT den ρ} {l : List (Nat × Code)} {sites : List (Nat × (St RT den → (Ex → St RT den → Option ρ) → Option ρ))} (h : LoopsOk E pc msk lp l) (hs : SitesOk E pc d sites) (hi : lp.inl = inlL sites) : LpOk E pc (d + 1) msk lp l := by
 refine ⟨h, fun site f s k r hv => ?_⟩
 rw [hi] at hv
 unfold inlL at hv
 split at hv
 ·rename_i p hp
  cases hb : Nat.beq p.1 f with
  | false => rw [hb] at hv; cases hv
  | true =>
   rw [hb] at hv
   have he := Nat.eq_of_beq_eq_true hb
   subst he
   obtain ⟨fn, c, msk', lp', h1, h2, h3, h4, h5, h6⟩ := hs p (List.mem_of_mem_drop (List.mem_of_mem_head? hp))
   exact ⟨fn, c, msk', lp', h1, h2, h3, h4, h5, by rw [← h6]; exact hv⟩
 ·cases hv
theorem site_nil {ρ : Type} {d : Nat} : SitesOk E pc d ([] : List (Nat × (St RT den → (Ex → St RT den → Option ρ) → Option ρ))) := fun p hp => by cases hp
theorem site_cons {ρ : Type} {d : Nat} (f : Nat) (fn : Func) {c : Code} {msk' : Nat → List Nat} {lp' : Lp RT den ρ} {l : List (Nat × (St RT den → (Ex → St RT den → Option ρ) → Option ρ))} (h1 : E.fn f = some fn) (h2 : fn.body = some c) (h3 : (fn.name == "runtime.NumGoroutine") = false) (h4 : codeIn fn.ntmps c = true)
  (h5 : LpOk E pc d msk' lp' (loops 0 c)) (h : SitesOk E pc d l) : SitesOk E pc d ((f, evCode E pc msk' lp' 0 c) :: l) := by
 intro p hp
 rcases List.mem_cons.1 hp with rfl | hp
 ·exact ⟨fn, c, msk', lp', h1, h2, h3, h4, h5, rfl⟩
 ·exact h p hp
theorem loop_nil {Q : Nat × Code → Prop} {l : List (Nat × Code)} (h : l = []) : ∀ p ∈ l, Q p := fun p hp => by rw [h] at hp; cases hp
theorem leastN {p : Nat → Prop} (h : ∃ n, p n) : ∃ n, p n ∧ ∀ m, p m → n ≤ m := by
 obtain ⟨n, hn⟩ := h
 induction n using Nat.strongRecOn with
 | _ n ih =>
  by_cases hm : ∃ m, m < n ∧ p m
  ·obtain ⟨m, hm, hp⟩ := hm
   exact ih m hm hp
  ·exact ⟨n, hn, fun m hp => by
    by_cases hl : n ≤ m
    ·exact hl
    ·exact absurd ⟨m, by omega, hp⟩ hm⟩
open Classical in
theorem loop_wp {n : Nat} {g : Array Value} {F0 : Was} {w0 : World} {c : Code} {m m2 : List Nat} {n0 : Nat} {ρ : Type} {step : St RT den → (Ex → St RT den → Option ρ) → Option ρ} {Q : Exit → Act → World → Prop} {k : Ex → St RT den → Option ρ} {r : ρ}
  (body : ∀ (Q' : Exit → Act → World → Prop) (k' : Ex → St RT den → Option ρ) (F : Frz) (β : Bet) (s : St RT den) (a : Act) (w : World), RelG E n g F0 w0 F β s a w → step s k' = some r →
   (∀ e F' β' s' a' w', RelG E n g F0 w0 F' β' s' a' w' → k' e s' = some r → Q' e.to a' w') → c.wp P Q' a w)
  (last : ∀ e F' β' s' a' w', RelG E n g F0 w0 F' β' s' a' w' → k e s' = some r → Q e.to a' w')
  {F : Frz} {β : Bet} {s : St RT den} {a : Act} {w : World} (h : RelG E n g F0 w0 F β s a w) {fuel : Nat} (hv : iter m m2 n0 step fuel s k = some r) : (Code.loop c).wp P Q a w := by
 let I : Act → World → Prop := fun a w => ∃ j F β s, RelG E n g F0 w0 F β s a w ∧ iter m m2 n0 step j s k = some r
 let μ : Act → World → Nat := fun a w => if h : I a w then Classical.choose (leastN h) else 0
 refine wp_loop I μ ⟨fuel, F, β, s, h, hv⟩ (fun a w hI => ?_)
 have hμ : μ a w = Classical.choose (leastN hI) := by simp only [μ]; rw [dif_pos hI]
 obtain ⟨⟨F, β, s, h, hv⟩, -⟩ := Classical.choose_spec (leastN hI)
 rw [← hμ] at hv
 cases hn : μ a w with
 | zero => rw [hn] at hv; simp [iter] at hv
 | succ j =>
  rw [hn] at hv
  simp only [iter] at hv
  refine body _ _ F β s a w h hv (fun e F' β' s' a' w' hr hk => ?_)
  cases e with
  | normal =>
   simp only [Option.bind_eq_some_iff] at hk
   obtain ⟨s2, hc, hk⟩ := hk
   have hI' : I a' w' := ⟨j, F', _, s2, ⟨hr.1, (hr.2.mask m).cut hc⟩, hk⟩
   refine ⟨hI', ?_⟩
   have e1 : μ a' w' = Classical.choose (leastN hI') := by simp only [μ]; rw [dif_pos hI']
   rw [e1]
   exact Nat.lt_succ_of_le ((Classical.choose_spec (leastN hI')).2 j ⟨F', _, s2, ⟨hr.1, (hr.2.mask m).cut hc⟩, hk⟩)
  | exit i => exact last (.exit i) F' β' _ a' w' ⟨hr.1, hr.2.mask m2⟩ hk
  | ret => exact last .ret F' β' _ a' w' ⟨hr.1, hr.2.mask m2⟩ hk
theorem code_wpG (hE : Ok E P) (hpc : PrOk E P pc.run) {n : Nat} {g : Array Value} {F0 : Was} {w0 : World} {ρ : Type} {r : ρ} {msk : Nat → List Nat} {lp : Lp RT den ρ} (hin : InlOk E P lp r) : ∀ (c : Code) (b : Nat), (g = #[] ∨ codeIn n c = true) → (∀ p ∈ loops b c, ∀ s k r, lp.lp p.1 s k = some r → ∃ fuel, iter (msk p.1) (msk (p.1 + 100000)) s.objs.length (evCode E pc msk lp p.1 p.2) fuel s k = some r) →
  ∀ (Q : Exit → Act → World → Prop) (k : Ex → St RT den → Option ρ) (F : Frz) (β : Bet) (s : St RT den) (a : Act) (w : World), RelG E n g F0 w0 F β s a w → evCode E pc msk lp b c s k = some r →
   (∀ e F' β' s' a' w', RelG E n g F0 w0 F' β' s' a' w' → k e s' = some r → Q e.to a' w') → c.wp P Q a w := by
 intro c
 induction c with
 | skip =>
  intro b hw hl Q k F β s a w h hv last
  simp only [evCode] at hv
  exact wp_skip (last .normal F β s a w h hv)
 | region id ops draw =>
  intro b hw hl Q k F β s a w h hv last
  simp only [evCode] at hv
  obtain ⟨F1, β1, h1⟩ := h.2.freezes hE (msk (500000 + id))
  have hw : InN n g ops := hw
  split at hv
  ·exact region_wp hE hpc ⟨h.1, h1⟩ hw hv (fun h l => Rel.mask h l) (fun F' β' s' a' w' hr hk => last .normal F' β' s' a' w' hr hk)
  ·exact regionI_wp hE hpc hin ⟨h.1, h1.mask _⟩ hw hv (fun F' β' s' a' w' hr hk => last .normal F' β' s' a' w' hr hk)
 | seq x y ihx ihy =>
  intro b hw hl Q k F β s a w h hv last
  simp only [evCode] at hv
  have hw' : (g = #[] ∨ codeIn n x = true) ∧ (g = #[] ∨ codeIn n y = true) := by
   rcases hw with hw | hw
   ·exact ⟨.inl hw, .inl hw⟩
   ·simp only [codeIn, Bool.and_eq_true] at hw
    exact ⟨.inr hw.1, .inr hw.2⟩
  refine wp_seq (ihx b hw'.1 (fun p hp => hl p (by simp [loops, hp])) _ _ F β s a w h hv (fun e F' β' s' a' w' hr hk => ?_))
  cases e with
  | normal => exact ihy b hw'.2 (fun p hp => hl p (by simp [loops, hp])) Q k F' β' s' a' w' hr hk last
  | exit i => exact last (.exit i) F' β' s' a' w' hr hk
  | ret => exact last .ret F' β' s' a' w' hr hk
 | cond c x y ihx ihy =>
  intro b hw hl Q k F β s a w h hv last
  cases c with
  | tmp t =>
   simp only [evCode] at hv
   have hw' : (g = #[] ∨ opdIn n (.tmp t) = true) ∧ (g = #[] ∨ codeIn n x = true) ∧ (g = #[] ∨ codeIn n y = true) := by
    rcases hw with hw | hw
    ·exact ⟨.inl hw, .inl hw, .inl hw⟩
    ·simp only [codeIn, Bool.and_eq_true] at hw
     exact ⟨.inr hw.1, .inr hw.2.1, .inr hw.2.2⟩
   split at hv
   ·rename_i b0 hg
    have hb := (get_rep h.2 t)
    rw [hg] at hb
    have hv' : a.eval (.tmp t) = .bool b0 := by
     rw [← eval_ext h.1 hw'.1]
     exact hb.toBool
    cases b0 with
    | true =>
     simp only [cond_true] at hv
     rw [put_same hg (by simp)] at hv
     exact wp_cond_true hv' (ihx b hw'.2.1 (fun p hp => hl p (by simp [loops, hp])) Q k F β s a w h hv last)
    | false =>
     simp only [cond_false] at hv
     rw [put_same hg (by simp)] at hv
     exact wp_cond_false hv' (ihy b hw'.2.2 (fun p hp => hl p (by simp [loops, hp])) Q k F β s a w h hv last)
   ·simp at hv
  | const v =>
   have hw' : (g = #[] ∨ codeIn n x = true) ∧ (g = #[] ∨ codeIn n y = true) := by
    rcases hw with hw | hw
    ·exact ⟨.inl hw, .inl hw⟩
    ·simp only [codeIn, Bool.and_eq_true] at hw
     exact ⟨.inr hw.2.1, .inr hw.2.2⟩
   cases v <;> try (simp [evCode] at hv; done)
   rename_i b0
   simp only [evCode] at hv
   cases b0 with
   | true => exact wp_cond_true rfl (ihx b hw'.1 (fun p hp => hl p (by simp [loops, hp])) Q k F β s a w h hv last)
   | false => exact wp_cond_false rfl (ihy b hw'.2 (fun p hp => hl p (by simp [loops, hp])) Q k F β s a w h hv last)
  | global g => simp [evCode] at hv
  | func f => simp [evCode] at hv
 | block i c ih =>
  intro b hw hl Q k F β s a w h hv last
  simp only [evCode] at hv
  have hw : g = #[] ∨ codeIn n c = true := hw
  refine wp_block (ih i hw (fun p hp => hl p (by simpa [loops] using hp)) _ _ F β s a w h hv (fun e F' β' s' a' w' hr hk => ?_))
  cases e with
  | normal => exact last .normal F' β' s' a' w' hr hk
  | exit j =>
   dsimp only at hk
   simp only [Ex.to, Exit.inBlock]
   split at hk
   ·rename_i hji
    rw [if_pos hji]
    exact last .normal F' β' s' a' w' hr hk
   ·rename_i hji
    rw [if_neg hji]
    exact last (.exit j) F' β' s' a' w' hr hk
  | ret => exact last .ret F' β' s' a' w' hr hk
 | loop c ih =>
  intro b hw hl Q k F β s a w h hv last
  simp only [evCode] at hv
  have hw : g = #[] ∨ codeIn n c = true := hw
  obtain ⟨fuel, hit⟩ := hl (b, c) (by simp [loops]) _ _ _ hv
  exact loop_wp (fun Q' k' F β s a w h' hv' last' => ih b hw (fun p hp => hl p (by simp [loops, hp])) Q' k' F β s a w h' hv' last') last ⟨h.1, (h.2.mask (msk b)).owns _⟩ hit
 | exit i =>
  intro b hw hl Q k F β s a w h hv last
  simp only [evCode] at hv
  exact wp_exit (last (.exit i) F β s a w h hv)
 | ret =>
  intro b hw hl Q k F β s a w h hv last
  simp only [evCode] at hv
  exact wp_ret (last .ret F β s a w h hv)
 | rangeFunc f params assign body _ _ => intro b hw hl Q k F β s a w h hv last; simp [evCode] at hv
 | scope body _ => intro b hw hl Q k F β s a w h hv last; simp [evCode] at hv
 | label l => intro b hw hl Q k F β s a w h hv last; simp [evCode] at hv
 | goto l => intro b hw hl Q k F β s a w h hv last; simp [evCode] at hv
 | refuse why => intro b hw hl Q k F β s a w h hv last; simp [evCode] at hv
theorem inl_ok (hE : Ok E P) (hpc : PrOk E P pc.run) {ρ : Type} (r : ρ) : ∀ (d : Nat) (msk : Nat → List Nat) (lp : Lp RT den ρ) (l : List (Nat × Code)), LpOk E pc d msk lp l → InlOk E P lp r
 | 0, msk, lp, l, h => fun site f s k hv => absurd hv (h.2 site f s k r)
 | d + 1, msk, lp, l, h => fun site f s k hv => by
  obtain ⟨fn, c, msk', lp', hf, hb, hname, hw, hlp, hev⟩ := h.2 site f s k r hv
  exact ⟨fn, c, hf, hb, hname, fun g F0 w0 F β a w Q hr last => code_wpG hE hpc (inl_ok hE hpc r d msk' lp' _ hlp) c 0 (.inr hw) hlp.loops Q k F β s a w hr hev last⟩
theorem code_wp (hE : Ok E P) (hpc : PrOk E P pc.run) {F0 : Was} {w0 : World} {d : Nat} {msk : Nat → List Nat} {ρ : Type} {lp : Lp RT den ρ} {r : ρ} (c : Code) (b : Nat) (hl : LpOk E pc d msk lp (loops b c))
  (Q : Exit → Act → World → Prop) (k : Ex → St RT den → Option ρ) (F : Frz) (β : Bet) (s : St RT den) (a : Act) (w : World) (h : Rel E F0 w0 F β s a w) (hv : evCode E pc msk lp b c s k = some r)
  (last : ∀ e F' β' s' a' w', Rel E F0 w0 F' β' s' a' w' → k e s' = some r → Q e.to a' w') : c.wp P Q a w :=
 code_wpG hE hpc (inl_ok hE hpc r d msk lp _ hl) c b (.inl rfl) hl.loops Q k F β s a w (RelG.of h) hv (fun e F' β' s' a' w' hr hk => last e F' β' s' a' w' (by have := hr.2; rwa [extA_nil] at this) hk)
theorem snapRes_rep (hE : Ok E P) {F0 : Was} {w0 : World} {F F' : Frz} {β : Bet} {s : St RT den} {a : Act} {w : World} (h : Rel E F0 w0 F β s a w) (h1 : ∀ b o, F b o → F' b o) (hf : ∀ b off, β.has b → F' b off) {d d' : D RT den} {v : Value} (hd : VRep E F w β d v)
  (hs : snapRes E s.objs d = some d') : VRep E F' w noBet d' v := by
 cases hd with
 | agg cs vs k1 k2 =>
  simp only [snapRes, Option.bind_eq_some_iff] at hs
  obtain ⟨cs', hcs, hs⟩ := hs
  have hs := Option.some.inj hs; subst hs
  obtain ⟨l1, l2⟩ := snapList_get hcs
  refine .agg cs' vs (by omega) (fun j c hc => ?_)
  obtain ⟨x, hx, hsx⟩ := l2 j c hc
  exact snapFlat_rep hE h h1 (k2 j x hx) hsx (fun _ => hf)
 | int k n => exact snapFlat_rep hE h h1 (.int k n) hs (fun _ => hf)
 | bool b => exact snapFlat_rep hE h h1 (.bool b) hs (fun _ => hf)
 | str b => exact snapFlat_rep hE h h1 (.str b) hs (fun _ => hf)
 | undef => exact snapFlat_rep hE h h1 .undef hs (fun _ => hf)
 | q v => exact snapFlat_rep hE h h1 (.q _) hs (fun _ => hf)
 | nil => exact snapFlat_rep hE h h1 .nil hs (fun _ => hf)
 | emp z τ a' k1 k2 k3 => exact snapFlat_rep hE h h1 (.emp z τ a' k1 k2 k3) hs (fun _ => hf)
 | ref o off b m hb => simp [snapRes, snapFlat] at hs
 | eref o sz j off b m hb hj => simp [snapRes, snapFlat] at hs
 | rptr cs b o u k1 k2 => exact snapFlat_rep hE h h1 (.rptr cs b o u k1 k2) hs (fun _ => hf)
 | rs z τ n f a' cap b o u k1 k2 k3 k4 k5 k6 k7 k8 => exact snapFlat_rep hE h h1 (.rs z τ n f a' cap b o u k1 k2 k3 k4 k5 k6 k7 k8) hs (fun _ => hf)
 | os o len cap b m k1 k2 k3 => exact snapFlat_rep hE h h1 (.os o len cap b m k1 k2 k3) hs (fun _ => hf)
 | os0 o a' k3 => exact snapFlat_rep hE h h1 (.os0 o a' k3) hs (fun _ => hf)
 | osn o i j len cap b m k1 k2 k3 => simp [snapRes, snapFlat] at hs
 | osn0 o i j a' k3 => simp [snapRes, snapFlat] at hs
 | osp o sz off len cap b m k1 k2 k3 => simp [snapRes, snapFlat] at hs
 | osp0 o sz off a' k3 => simp [snapRes, snapFlat] at hs
 | lit τ cs b o u k0 k1 k2 => simp [snapRes, snapFlat] at hs
 | fn f cap vs k1 k2 => exact snapFlat_rep hE h h1 (.fn f cap vs k1 k2) hs (fun _ => hf)
 | tup ds vs k1 k2 => simp [snapRes, snapFlat] at hs
theorem results_rep (hE : Ok E P) {F0 : Was} {w0 : World} {F F' : Frz} {β : Bet} {s : St RT den} {a : Act} {w : World} (h : Rel E F0 w0 F β s a w) (h1 : ∀ b o, F b o → F' b o) (hf : ∀ b off, β.has b → F' b off) :
  ∀ (l : List ResultVar) (ds : List (D RT den)), results E s l = some ds → ∃ vs : List Value, (l.mapM (readVar a.tmps)).run P w = .ok vs w ∧ vs.length = ds.length ∧ ∀ (j : Nat) c, ds[j]? = some c → VRep E F' w noBet c (vs.getD j Go.undef)
 | [], ds, hr => by
  simp [results] at hr; subst hr
  exact ⟨[], by simp, rfl, by simp⟩
 | x :: l, ds, hr => by
  simp only [results, Option.bind_eq_some_iff] at hr
  obtain ⟨d, hd, d', hd', ds', hds, hr⟩ := hr
  have hr := Option.some.inj hr; subst hr
  obtain ⟨vs, v1, v2, v3⟩ := results_rep hE h h1 hf l ds' hds
  have key : ∃ v, (readVar a.tmps x).run P w = .ok v w ∧ VRep E F w β d v := by
   cases x with
   | tmp t =>
    simp only [result, Option.some.injEq] at hd; subst hd
    exact ⟨_, rfl, get_rep h t⟩
   | cell p t =>
    simp only [result] at hd
    have hp := get_rep h p
    obtain ⟨v, hv1, hv2⟩ := load_rep hE h hp hd
    refine ⟨v, ?_, hv2⟩
    simp only [load, Option.bind_eq_some_iff] at hd
    obtain ⟨cs, hcs, _⟩ := hd
    obtain ⟨b, o, u, hvp, _⟩ := cellsAt_rep hE h hp hcs
    rw [hvp] at hv1
    simp only [readVar, hvp, asAddr]
    simpa [Instr.loadAt, Instr.sureAddr] using hv1
  obtain ⟨v, hv1, hv2⟩ := key
  refine ⟨v :: vs, by simp [List.mapM_cons, hv1, v1], by simp [v2], fun j c hc => ?_⟩
  cases j with
  | zero => simp at hc; subst hc; exact snapRes_rep hE h h1 hf hv2 hd'
  | succ j => simpa using v3 j c (by simpa using hc)
theorem fun_good (hE : Ok E P) (hpc : PrOk E P pc.run) {d : Nat} {msk : Nat → List Nat} {ρ : Type} {lp : Lp RT den ρ} {out : D RT den → Option ρ} {y : ρ} {f : Nat} {xs : List (D RT den)} {r : D RT den} {fn : Func} {c : Code} (hf : E.fn f = some fn) (hb : fn.body = some c)
  (hname : (fn.name == "runtime.NumGoroutine") = false) (hlp : LpOk E pc d msk lp (loops 0 c)) (hout : ∀ d, out d = some y → d = r) (hv : evFun E pc msk lp out f xs = some y) : Good E P f xs r := by
 refine ⟨⟨fn, hE.fn f fn hf, by simp [hb], hname⟩, fun F w vs hF hlen hxs => ?_⟩
 simp only [evFun, hf, hb] at hv
 refine calls_of_wp (hE.fn f fn hf) hb ?_
 have h0 : Rel E ⟨F, fun _ => False, noBet, 0, fun _ => False, fun _ h => h.elim⟩ w F noBet ⟨xs ++ List.replicate (fn.ntmps - xs.length) .undef, []⟩ { tmps := vs ++ Array.replicate (fn.ntmps - vs.size) Go.undef, defers := [] } w := by
  refine ⟨rfl, by simp; omega, fun i d hd => ?_, by simp, fun o b m hb => by simp [noBet] at hb, fun o o' b m m' hb => by simp [noBet] at hb, Keep.refl _ _ _, hF.lt, fun _ _ h => h, fun _ _ h => .inl h, fun o hx => absurd hx (Nat.not_lt_zero _), fun o hx => absurd hx (Nat.not_lt_zero _), hid_none _ _ _, hF.tw rfl (fun _ hb => hb.elim)⟩
  dsimp only at hd ⊢
  rw [List.getElem?_append] at hd
  split at hd
  ·rename_i hlt
   have h1 : i < vs.size := by omega
   have h2 : i < vs.size + (fn.ntmps - vs.size) := by omega
   have := hxs i d hd
   have e : (vs ++ Array.replicate (fn.ntmps - vs.size) Go.undef).getD i Go.undef = vs.getD i Go.undef := by simp [Array.getD, h1, h2]
   rw [e]; exact this
  ·rename_i hge
   rw [List.getElem?_replicate] at hd
   split at hd
   ·rename_i hlt
    simp at hd; subst hd
    have h1 : ¬ i < vs.size := by omega
    have h2 : i < vs.size + (fn.ntmps - vs.size) := by omega
    have e : (vs ++ Array.replicate (fn.ntmps - vs.size) Go.undef).getD i Go.undef = Go.undef := by simp [Array.getD, h1, h2, Array.getElem_append]
    rw [e]; exact .undef
   ·simp at hd
 refine code_wp hE hpc c 0 hlp _ _ F noBet _ _ w h0 hv (fun e F' β' s' a' w' hr hk => ?_)
 have fin : (results E s' fn.results.toList).bind (fun ds => out (retOf ds)) = some y → a'.defers = [] ∧ ∃ v, (Go.results fn a'.tmps).run P w' = .ok v w' ∧
   ∃ v' F'', Ending.returned v = .returned v' ∧ Below w.heap.size w w' ∧ (∀ b o, F b o → F'' b o) ∧ (∀ b o, F'' b o → F b o ∨ w.heap.size ≤ b) ∧ (∀ b o, F'' b o → b < w'.heap.size) ∧ VRep E F'' w' noBet r v' := by
  intro hk
  simp only [Option.bind_eq_some_iff] at hk
  obtain ⟨ds, hds, hk⟩ := hk
  have hk := hout _ hk; subst hk
  obtain ⟨us, u1, u2, u3⟩ := results_rep hE hr (F' := fun b o => F' b o ∨ β'.has b) (fun _ _ => .inl) (fun b off hb => .inr hb) _ ds hds
  refine ⟨hr.defers, _, run_results u1, _, fun b o => F' b o ∨ β'.has b, rfl, hr.below.toBelow, fun b o hf => .inl (hr.frz1 b o hf), ?_, ?_, ?_⟩
  ·rintro b o (hf | ⟨i, m, hi⟩ | ⟨i, q, m, hi⟩)
   ·exact (hr.frz2 b o hf).elim .inl (fun h => h.elim .inr (fun h => h.elim))
   ·exact .inr ((hr.names i b m hi).1.elim id (fun h => h.elim))
   ·exact .inr ((hr.hid.ok i q b m hi).elim id (fun h => h.elim))
  ·rintro b o (hf | ⟨i, m, hi⟩ | ⟨i, q, m, hi⟩)
   ·exact hr.frz b o hf
   ·exact (hr.names i b m hi).2.1
   ·exact (hr.hid.names i q b m hi).1
  ·match us, ds, u2, u3 with
   | [], [], _, _ => exact .tup [] #[] rfl (by simp)
   | [v], [d], _, u3 => exact u3 0 d rfl
   | v :: v' :: us, d :: d' :: ds, u2, u3 =>
    refine .tup _ _ (by simp at u2 ⊢; omega) (fun j c hc => ?_)
    have := u3 j c hc
    rw [← getD_toList]
    exact this
 cases e with
 | normal => exact fin hk
 | ret => exact fin hk
 | exit i => simp [finish] at hk
end Go.Proofs.Ytcmfekgdlaffkaa.Vm

