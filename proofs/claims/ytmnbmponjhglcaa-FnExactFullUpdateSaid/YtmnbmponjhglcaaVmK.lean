/- The value machine: a step on the machine; the orders of a region. Conditions: none. -/
import Derived.Test.YtmnbmponjhglcaaVmJ
namespace Go.Proofs.Ytmnbmponjhglcaa.Vm
open Go Go.RowKit
set_option linter.unusedVariables false
set_option linter.unusedSimpArgs false

variable {RT : Type} {den : RT → Type} {E : Env RT den} {P : Program} {pc : Pr RT den}

theorem Rel.put {F0 : Was} {w0 : World} {F : Frz} {β : Bet} {s : St RT den} {a : Act} {w : World} (h : Rel E F0 w0 F β s a w) {d : D RT den} {v : Value} (hd : VRep E F w β d v) (t : Option Nat) : Rel E F0 w0 F β (s.put t d) (a.put t v) w := by
  cases t with
  | none => exact h
  | some t =>
    refine ⟨h.defers, by simp [Act.put, St.put, h.size], fun i x hx => ?_, h.objs, h.names, h.inj, h.below, h.frz, h.frz1, h.frz2, h.place, h.placeH, h.hid⟩
    simp only [St.put] at hx
    simp only [Act.put]
    by_cases hit : t = i
    · subst hit
      have hl : t < s.slots.length := by
        have := (List.getElem?_eq_some_iff.1 hx).1
        simpa using this
      have hl2 : t < a.tmps.size := by rw [h.size]; exact hl
      simp [hl] at hx
      subst hx
      simp [Array.getD, hl2]
      exact hd
    · rw [List.getElem?_set_ne hit] at hx
      have := h.slots i x hx
      have hl : i < a.tmps.size := by rw [h.size]; exact (List.getElem?_eq_some_iff.1 hx).1
      have e : (a.tmps.setIfInBounds t v).getD i Go.undef = a.tmps.getD i Go.undef := by
        simp [Array.getD, hl, hit]
      rw [e]; exact this

theorem yielded_get {F0 : Was} {w0 : World} {F : Frz} {β : Bet} {s : St RT den} {a : Act} {w : World} (h : Rel E F0 w0 F β s a w) {ops : Array Oper} {j t : Nat} (ht : dstOf ops j = some t) :
    (∀ g, s.get t = .bool g → yielded ops a.tmps j = some g) ∧ (s.get t = .undef → yielded ops a.tmps j = none) := by
  have hr := get_rep h t
  unfold dstOf at ht
  unfold yielded
  simp only [ht, Option.bind_some]
  constructor
  · intro g hg
    rw [hg] at hr
    have hv := hr.toBool
    by_cases hl : t < a.tmps.size
    · rw [getD_some hl, hv]
    · simp [Array.getD, hl, Go.undef] at hv
  · intro hg
    rw [hg] at hr
    by_cases hl : t < a.tmps.size
    · rw [getD_some hl]
      generalize a.tmps.getD t Go.undef = v at hr
      cases hr
      rfl
    · simp [hl]

theorem kill_objs {s : St RT den} {o : Option Nat} : (s.kill o).objs = s.objs := by cases o <;> rfl

/-- One step. -/
theorem step_wp (hE : Ok E P) (hpc : PrOk E P pc) {F0 : Was} {w0 : World} {F : Frz} {β : Bet} {s s' : St RT den} {a : Act} {w : World} (h : Rel E F0 w0 F β s a w) {ops : Array Oper} {i al : Nat} {o : Oper} (hi : ops[i]? = some o)
    (hs : stepOp E pc ops (o, al) s = some s') (hal : ∀ t, o.op = .alloc t → β al = none ∧ ∃ cs, E.zero t = some cs ∧ s.objs[al]? = some (.box false cs)) {K : Act → World → Prop} {Q : Exit → Act → World → Prop}
    (next : ∀ F' β' a' w', Rel E F0 w0 F' β' s' a' w' → s.objs.length ≤ s'.objs.length → (∀ i, i < s.objs.length → β i = none → ¬ (i = al ∧ isAlloc o.op = true) → (∃ cs, s.objs[i]? = some (.box false cs) ∧ cs.all D.pure = true) → β' i = none ∧ s'.objs[i]? = s.objs[i]?) → K a' w') : wpOp P ops Q i K a w := by
  have run : ∀ s1, doOp E pc o al s = some s1 → s1 = s' → o.wp P a w K Q := by
    intro s1 hd e
    subst e
    unfold doOp at hd
    cases hxo : xOf pc.has o.op with
    | some fx =>
      obtain ⟨f, xs⟩ := fx
      rw [hxo] at hd
      simp only [Option.bind_eq_some_iff] at hd
      obtain ⟨⟨r, os'⟩, hv, hd⟩ := hd
      have hd := Option.some.inj hd; subst hd
      obtain ⟨dst, op, ty, pos, after, guard⟩ := o
      obtain ⟨args, argTypes, rfl, rfl⟩ := xOf_call hxo
      obtain ⟨a1, a2⟩ := args_rep h (E.par f) args.toList
      obtain ⟨c1, c2⟩ := callX_wp hE hpc h (vs := args.map a.eval) (by simp [a1]) (fun i x hx => by
        have := a2 i x hx
        rw [← Array.toList_map, getD_toList] at this
        exact this) hv
      unfold Oper.wp
      have hrun : (execOp a.eval ⟨dst, .call ⟨.value (.func f), args, argTypes⟩, ty, pos, after, guard⟩).run P w = .ok (.enter f (args.map a.eval)) w := by
        simp [execOp, resolve, Deferred.ofValue, invoke, run_callFunc c1, Act.eval]
      rw [hrun]
      refine c2.mono ?_
      rintro e w' ⟨v, F', β', rfl, hr, hvr, hlen, hβ⟩
      exact next F' β' _ w' (hr.put hvr _) (by rw [put_objs]; exact hlen) (fun i hi hn hne hbx => ⟨(hβ i hi hn hbx).1, by rw [put_objs]; exact (hβ i hi hn hbx).2⟩)
    | none =>
    rw [hxo] at hd
    dsimp only at hd
    cases hst : still o.op with
    | true =>
      simp only [hst, cond_true, Option.bind_eq_some_iff] at hd
      obtain ⟨d, hv, hd⟩ := hd
      have hd := Option.some.inj hd; subst hd
      exact val_wp hE hpc.fn h o al hal hv (fun F' β' v w' hr hvr hβ => next F' β' _ w' (hr.put hvr _) (by rw [put_objs]; exact Nat.le_refl _) (fun i hi hn hne _ => ⟨hβ i hn hne, by rw [put_objs]⟩))
    | false =>
      simp only [hst, cond_false, Option.bind_eq_some_iff] at hd
      obtain ⟨⟨d, os⟩, hv, hd⟩ := hd
      have hd := Option.some.inj hd; subst hd
      have hlen := eff_len hv
      exact eff_wp hE h o hv (fun F' β' v w' hr hvr hβ => next F' β' _ w' (hr.put hvr _) (by rw [put_objs, kill_objs]; exact hlen) (fun i hi hn hne hbx => ⟨(hβ i hi hn hbx).1, by rw [put_objs, kill_objs]; exact (hβ i hi hn hbx).2⟩))
  have skip : s.put o.dst .undef = s' → K (a.put o.dst Go.undef) w := fun e => by
    subst e
    exact next F β _ w (h.put .undef _) (by rw [put_objs]; exact Nat.le_refl _) (fun i hi hn hne _ => ⟨hn, by rw [put_objs]⟩)
  unfold wpOp
  simp only [hi]
  unfold stepOp at hs
  dsimp only at hs
  split at hs
  · rename_i hg
    rw [if_pos (by simp [Region.wanted, hg])]
    exact .inl (run s' hs rfl)
  · rename_i j want hg
    split at hs
    · rename_i t ht
      obtain ⟨y1, y2⟩ := yielded_get h ht
      split at hs
      · rename_i g hgt
        cases hw : (g == want) with
        | true =>
          simp only [hw, cond_true] at hs
          rw [if_pos (by simp [Region.wanted, hg, y1 g hgt]; simpa using hw)]
          exact .inl (run s' hs rfl)
        | false =>
          simp only [hw, cond_false, Option.some.injEq] at hs
          rw [if_neg (by simp [Region.wanted, hg, y1 g hgt]; simpa using hw)]
          exact skip hs
      · rename_i hgt
        simp only [Option.some.injEq] at hs
        rw [if_neg (by simp [Region.wanted, hg, y2 hgt])]
        exact skip hs
      · simp at hs
    · simp at hs

/-- The places of the variables that are still to be made. -/
def Pend (E : Env RT den) (β : Bet) (s : St RT den) (l : List (Oper × Nat)) : Prop := ∀ p ∈ l, ∀ t, p.1.op = .alloc t → β p.2 = none ∧ ∃ cs, E.zero t = some cs ∧ s.objs[p.2]? = some (.box false cs)

def Apart (l : List (Oper × Nat)) : Prop := l.Pairwise fun p q => isAlloc p.1.op = true → isAlloc q.1.op = true → p.2 ≠ q.2

theorem Pend.step (hE : Ok E P) {β β' : Bet} {s s' : St RT den} {p : Oper × Nat} {l : List (Oper × Nat)} (h : Pend E β s l) (hp : ∀ q ∈ l, isAlloc p.1.op = true → isAlloc q.1.op = true → p.2 ≠ q.2)
    (hs : ∀ i, i < s.objs.length → β i = none → ¬ (i = p.2 ∧ isAlloc p.1.op = true) → (∃ cs, s.objs[i]? = some (.box false cs) ∧ cs.all D.pure = true) → β' i = none ∧ s'.objs[i]? = s.objs[i]?) : Pend E β' s' l := by
  intro q hq t ht
  obtain ⟨h1, cs, h2, h3⟩ := h q hq t ht
  have hlt := (List.getElem?_eq_some_iff.1 h3).1
  obtain ⟨h4, h5⟩ := hs q.2 hlt h1 (fun e => hp q hq e.2 (by simp [ht, isAlloc]) e.1.symm) ⟨cs, h3, by obtain ⟨z, _, _, _, hp, _⟩ := hE.zero t cs h2; exact hp⟩
  exact ⟨h4, cs, h2, by rw [h5]; exact h3⟩

/-- Steps in a given order. -/
theorem steps_wp (hE : Ok E P) (hpc : PrOk E P pc) {F0 : Was} {w0 : World} {ops : Array Oper} {Q : Exit → Act → World → Prop} {s' : St RT den}
    (last : ∀ F' β' a' w', Rel E F0 w0 F' β' s' a' w' → Q .normal a' w') : ∀ (X : List (Nat × (Oper × Nat))) {F : Frz} {β : Bet} {s : St RT den} {a : Act} {w : World}, Rel E F0 w0 F β s a w → (∀ x ∈ X, ops[x.1]? = some x.2.1) →
      runOps E pc ops (X.map (·.2)) s = some s' → Pend E β s (X.map (·.2)) → Apart (X.map (·.2)) → wpOps P ops Q (X.map (·.1)) a w
  | [], F, β, s, a, w, h, _, hr, _, _ => by
    simp only [List.map_nil, runOps, Option.some.injEq] at hr
    subst hr
    exact last F β a w h
  | x :: X, F, β, s, a, w, h, hx, hr, hp, hd => by
    simp only [List.map_cons, runOps, Option.bind_eq_some_iff] at hr
    obtain ⟨s1, h1, h2⟩ := hr
    rw [List.map_cons, wpOps_cons]
    simp only [Apart, List.map_cons, List.pairwise_cons] at hd
    refine step_wp hE hpc h (hx x (by simp)) h1 (fun t ht => hp x.2 (by simp) t ht) (fun F' β' a' w' hr' hlen hβ => ?_)
    exact steps_wp hE hpc last X hr' (fun y hy => hx y (by simp [hy])) h2 (Pend.step hE (p := x.2) (fun q hq => hp q (by simp only [List.map_cons, List.mem_cons]; exact .inr hq)) (fun q hq => hd.1 q hq) hβ) hd.2

/-! ### Any order -/

inductive Anc (ops : Array Oper) : Nat → Nat → Prop
  | edge {i : Nat} {o : Oper} {e : Edge} : ops[i]? = some o → e ∈ o.after.toList → Region.binds .any e = true → Anc ops i e.on
  | far {i y : Nat} {o : Oper} {e : Edge} : ops[i]? = some o → e ∈ o.after.toList → Region.binds .any e = true → Anc ops e.on y → Anc ops i y

theorem mask_one {ops : Array Oper} {i : Nat} {o : Oper} (ho : ops[i]? = some o) (acc : List Nat) (hacc : ∀ i y, (acc.getD i 0).testBit y = true → Anc ops i y) : ∀ (l : List Edge) (m : Nat), (∀ e ∈ l, e ∈ o.after.toList) → (∀ y, m.testBit y = true → Anc ops i y) →
    ∀ y, (l.foldl (fun s e => bif Region.binds .any e then s ||| 2 ^ e.on ||| acc.getD e.on 0 else s) m).testBit y = true → Anc ops i y
  | [], m, _, hm, y, hy => hm y hy
  | e :: l, m, hl, hm, y, hy => by
    rw [List.foldl_cons] at hy
    refine mask_one ho acc hacc l _ (fun e' h' => hl e' (by simp [h'])) (fun y hy => ?_) y hy
    cases hb : Region.binds .any e with
    | false => rw [hb] at hy; exact hm y hy
    | true =>
      rw [hb] at hy
      simp only [cond_true, Nat.testBit_or, Bool.or_eq_true] at hy
      rcases hy with (hy | hy) | hy
      · exact hm y hy
      · rw [Nat.testBit_two_pow] at hy
        have : e.on = y := by simpa using hy
        subst this
        exact .edge ho (hl e (by simp)) hb
      · exact .far ho (hl e (by simp)) hb (hacc _ _ hy)

theorem masks_sound {ops : Array Oper} : ∀ (l : List Oper) (acc : List Nat), (∀ j o, l[j]? = some o → ops[acc.length + j]? = some o) → (∀ i y, (acc.getD i 0).testBit y = true → Anc ops i y) → ∀ i y, ((masks l acc).getD i 0).testBit y = true → Anc ops i y
  | [], acc, _, hacc, i, y, h => hacc i y h
  | o :: l, acc, hl, hacc, i, y, h => by
    have ho := hl 0 o rfl
    rw [Nat.add_zero] at ho
    refine masks_sound l _ (fun j o' hj => ?_) (fun i y hiy => ?_) i y h
    · rw [List.length_append, List.length_singleton, Nat.add_assoc, Nat.add_comm 1 j]
      exact hl (j + 1) o' hj
    · rw [List.getD_eq_getElem?_getD, List.getElem?_append] at hiy
      split at hiy
      · exact hacc i y (by rw [List.getD_eq_getElem?_getD]; exact hiy)
      · rename_i hge
        by_cases hz : i - acc.length = 0
        · have : i = acc.length := by omega
          subst this
          simp only [Nat.sub_self, List.getElem?_cons_zero, Option.getD_some] at hiy
          exact mask_one ho acc hacc _ 0 (fun _ h => h) (by simp) y hiy
        · have : ([o.after.toList.foldl (fun s e => bif Region.binds .any e then s ||| 2 ^ e.on ||| acc.getD e.on 0 else s) 0])[i - acc.length]? = none := by
            rw [List.getElem?_eq_none]; simp; omega
          rw [this] at hiy
          simp at hiy

theorem runOps_append {ops : Array Oper} : ∀ (l l' : List (Oper × Nat)) (s : St RT den), runOps E pc ops (l ++ l') s = (runOps E pc ops l s).bind (runOps E pc ops l')
  | [], l', s => rfl
  | p :: l, l', s => by
    simp only [List.cons_append, runOps, Option.bind_assoc]
    congr 1; funext s1
    exact runOps_append l l' s1

/-- An operation that may change places with all ahead of it comes first. -/
theorem bubble {ops : Array Oper} {fz : (Nat → Bool) × (Nat → Bool)} {x : Oper × Nat} {l' : List (Oper × Nat)} {s' : St RT den} : ∀ (p : List (Oper × Nat)) (s : St RT den), Fz ops fz s → (∀ y ∈ p, y.1 ∈ ops.toList) → (∀ y ∈ p, swaps pc.has pc.lend fz ops y.1 x.1 = true) → runOps E pc ops (p ++ x :: l') s = some s' → runOps E pc ops (x :: (p ++ l')) s = some s'
  | [], s, _, _, _, h => h
  | y :: p, s, hf, hm, hp, h => by
    simp only [List.cons_append, runOps, Option.bind_eq_some_iff] at h
    obtain ⟨s1, h1, h2⟩ := h
    have h3 := bubble p s1 (hf.step (hm y (by simp)) h1) (fun z hz => hm z (by simp [hz])) (fun z hz => hp z (by simp [hz])) h2
    simp only [runOps, Option.bind_eq_some_iff] at h3
    obtain ⟨s2, h4, h5⟩ := h3
    obtain ⟨s3, h6, h7⟩ := step_swap hf (hp y (by simp)) h1 h4
    simp only [runOps, Option.bind_eq_some_iff, List.cons_append]
    exact ⟨s3, h6, s2, h7, h5⟩

end Go.Proofs.Ytmnbmponjhglcaa.Vm
