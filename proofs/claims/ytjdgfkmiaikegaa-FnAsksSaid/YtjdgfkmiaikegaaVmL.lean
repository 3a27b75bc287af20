
/- The value machine: a region on the machine, in any order that it may draw. Conditions: none. -/
import Derived.Test.YtjdgfkmiaikegaaVmK
namespace Go.Proofs.Ytjdgfkmiaikegaa.Vm
open Go Go.RowKit
set_option linter.unusedVariables false
set_option linter.unusedSimpArgs false
variable {RT : Type} {den : RT → Type} {E : Env RT den} {P : Program}
theorem places_len : ∀ (l : List Oper) (n : Nat), (places l n).length = l.length
 | [], _ => rfl
 | o :: l, n => by simp [places, places_len l]
theorem places_get : ∀ (l : List Oper) (n i : Nat) (p : Oper × Nat), (places l n)[i]? = some p → l[i]? = some p.1
 | [], _, i, p, h => by simp [places] at h
 | o :: l, n, 0, p, h => by simp [places] at h; subst h; rfl
 | o :: l, n, i + 1, p, h => by
  simp only [places, List.getElem?_cons_succ] at h ⊢
  exact places_get l _ i p h
theorem places_ge : ∀ (l : List Oper) (n : Nat), ∀ p ∈ places l n, n ≤ p.2
 | [], n, p, h => by simp [places] at h
 | o :: l, n, p, h => by
  simp only [places, List.mem_cons] at h
  rcases h with rfl | h
  ·exact Nat.le_refl _
  ·have := places_ge l _ p h
   split at this <;> omega
theorem places_apart : ∀ (l : List Oper) (n : Nat), Apart (places l n)
 | [], n => List.Pairwise.nil
 | o :: l, n => by
  simp only [places]
  refine List.Pairwise.cons (fun q hq h1 h2 => ?_) (places_apart l _)
  have := places_ge l _ q hq
  cases hop : o.op <;> simp [hop, isAlloc] at h1
  simp only [hop] at this
  dsimp only
  omega
theorem places_pend : ∀ (l : List Oper) (os objs : List (Ob RT den)), fresh E l = some os → ∀ p ∈ places l objs.length, ∀ t, p.1.op = .alloc t → ∃ cs, E.zero t = some cs ∧ (objs ++ os)[p.2]? = some (.box false cs)
 | [], os, objs, _, p, h, t, _ => by simp [places] at h
 | o :: l, os, objs, hf, p, h, t, ht => by
  simp only [places, List.mem_cons] at h
  by_cases hal : ∃ t', o.op = .alloc t'
  ·obtain ⟨t', ht'⟩ := hal
   simp only [fresh, ht', Option.bind_eq_some_iff] at hf
   obtain ⟨cs, hz, os', hos, hf⟩ := hf
   have hf := Option.some.inj hf; subst hf
   simp only [ht'] at h
   rcases h with rfl | h
   ·dsimp only at ht
    rw [ht'] at ht; cases ht
    exact ⟨cs, hz, by simp⟩
   ·have := places_pend l os' (objs ++ [.box false cs]) hos p (by simpa using h) t ht
    simpa using this
  ·have hf' : fresh E l = some os := by
    simp only [fresh] at hf
    split at hf
    ·rename_i t' ht'; exact absurd ⟨t', ht'⟩ hal
    ·exact hf
   split at h
   ·rename_i t' ht'; exact absurd ⟨t', ht'⟩ hal
   ·rcases h with rfl | h
    ·exact absurd ⟨t, ht⟩ hal
    ·exact places_pend l os objs hf' p h t ht
theorem split_at' {X : List (Nat × (Oper × Nat))} {i : Nat} (h : i ∈ X.map (·.1)) : ∃ p x q, X = p ++ x :: q ∧ x.1 = i := by
 obtain ⟨x, hx, rfl⟩ := List.mem_map.1 h
 obtain ⟨p, q, rfl⟩ := List.append_of_mem hx
 exact ⟨p, x, q, rfl, rfl⟩
def RunsI (E : Env RT den) (pc : Pr RT den) {ρ : Type} (lp : Lp RT den ρ) (inls : List Nat) (ops : Array Oper) (kk : St RT den → Option ρ) (r : ρ) : List (Nat × (Oper × Nat)) → St RT den → Prop
 | [], s => kk s = some r
 | x :: X, s => match siteOf inls x.1 with
  | none => ∃ s1, stepOp E pc ops x.2 s = some s1 ∧ RunsI E pc lp inls ops kk r X s1
  | some site => match isLitS site with
   | true => ∃ s1, litOp E x.2.1 (x.2.2 + (site - 990)) s = some s1 ∧ RunsI E pc lp inls ops kk r X s1
   | false => x.2.1.guard = none ∧ ∃ k', (∀ s1, k' s1 = some r → RunsI E pc lp inls ops kk r X s1) ∧ inlOp E lp site x.2.1 s k' = some r
def cpsB (inls : List Nat) (i : Nat) : Bool := match siteOf inls i with
 | none => false
 | some site => !isLitS site
theorem runsI_none {pc : Pr RT den} {ρ : Type} {lp : Lp RT den ρ} {inls : List Nat} {ops : Array Oper} {kk : St RT den → Option ρ} {r : ρ} {x : Nat × (Oper × Nat)} {X : List (Nat × (Oper × Nat))} {s : St RT den} (hx : cpsB inls x.1 = false) :
  RunsI E pc lp inls ops kk r (x :: X) s ↔ ∃ s1, stepJ E pc inls ops x s = some s1 ∧ RunsI E pc lp inls ops kk r X s1 := by
 unfold cpsB at hx
 rw [RunsI]
 unfold stepJ
 cases hs : siteOf inls x.1 with
 | none => rfl
 | some site =>
  rw [hs] at hx
  dsimp only at hx ⊢
  simp only [Bool.not_eq_false'] at hx
  rw [hx]
  rfl
theorem runsI_some {pc : Pr RT den} {ρ : Type} {lp : Lp RT den ρ} {inls : List Nat} {ops : Array Oper} {kk : St RT den → Option ρ} {r : ρ} {x : Nat × (Oper × Nat)} {X : List (Nat × (Oper × Nat))} {s : St RT den} (hx : cpsB inls x.1 = true) :
  ∃ site, RunsI E pc lp inls ops kk r (x :: X) s ↔ (x.2.1.guard = none ∧ ∃ k', (∀ s1, k' s1 = some r → RunsI E pc lp inls ops kk r X s1) ∧ inlOp E lp site x.2.1 s k' = some r) := by
 unfold cpsB at hx
 rw [RunsI]
 cases hs : siteOf inls x.1 with
 | none => rw [hs] at hx; cases hx
 | some site =>
  rw [hs] at hx
  dsimp only at hx ⊢
  simp only [Bool.not_eq_true'] at hx
  refine ⟨site, ?_⟩
  rw [hx]
theorem runsI_of {pc : Pr RT den} {ρ : Type} {lp : Lp RT den ρ} {ops : Array Oper} {kk : St RT den → Option ρ} {r : ρ} {s' : St RT den} (hk : kk s' = some r) : ∀ (X : List (Nat × (Oper × Nat))) (s : St RT den), runOps E pc ops (X.map (·.2)) s = some s' → RunsI E pc lp [] ops kk r X s
 | [], s, h => by
  simp only [List.map_nil, runOps, Option.some.injEq] at h
  subst h; exact hk
 | x :: X, s, h => by
  simp only [List.map_cons, runOps, Option.bind_eq_some_iff] at h
  obtain ⟨s1, h1, h2⟩ := h
  exact (runsI_none (inls := []) rfl).2 ⟨s1, h1, runsI_of hk X s1 h2⟩
theorem runsI_ev {pc : Pc RT den} {ρ : Type} {lp : Lp RT den ρ} {inls : List Nat} {ops : Array Oper} {kk : St RT den → Option ρ} {r : ρ} : ∀ (Y : List ((Oper × Nat) × Nat)) (s : St RT den), evOpsI E pc lp inls ops Y s kk = some r → RunsI E pc.run lp inls ops kk r (Y.map fun p => (p.2, p.1)) s
 | [], s, h => h
 | (p, i) :: Y, s, h => by
  simp only [evOpsI] at h
  rw [List.map_cons]
  cases hs : siteOf inls i with
  | none =>
   rw [hs] at h
   obtain ⟨s1, h1, h2⟩ := evOps_run _ _ _ h
   simp only [runOps, Option.bind_eq_some_iff] at h1
   obtain ⟨s2, h1, h3⟩ := h1
   have h3 := Option.some.inj h3; subst h3
   exact (runsI_none (by simp [cpsB, hs])).2 ⟨s2, by simp only [stepJ, hs]; exact h1, runsI_ev Y s2 h2⟩
  | some site =>
   rw [hs] at h
   dsimp only at h
   cases hb : isLitS site with
   | true =>
    rw [hb] at h
    simp only [cond_true, Option.bind_eq_some_iff] at h
    obtain ⟨⟨c, ob, n⟩, h1, h⟩ := h
    cases c with
    | false => cases h
    | true =>
    simp only [cond_true] at h
    cases hf : freeAt s.objs (p.2 + (site - 990)) with
    | false => rw [hf] at h; cases h
    | true =>
    rw [hf] at h
    simp only [cond_true] at h
    have hv : litVal E p.1 s = some (ob, n) := by simp only [litVal, h1, Option.bind_some, cond_true]
    exact (runsI_none (by simp only [cpsB, hs, hb]; rfl)).2 ⟨_, by simp only [stepJ, hs, hb, cond_true]; exact litOp_mk hv (freeAt_get hf).1, runsI_ev Y _ h⟩
   | false =>
    rw [hb] at h
    simp only [cond_false] at h
    rw [RunsI]
    simp only [hs, hb]
    split at h
    ·rename_i hg
     exact ⟨hg, _, fun s1 h1 => runsI_ev Y s1 h1, h⟩
    ·cases h
theorem PlaceOk.mono {fz : FzS} {inls : List Nat} {n m : Nat} {x : Nat × (Oper × Nat)} (h : PlaceOk fz inls n x) (hm : n ≤ m) : PlaceOk fz inls m x := fun site hs hl => ⟨(h site hs hl).1, Nat.lt_of_lt_of_le (h site hs hl).2 hm⟩
theorem bubble {pc : Pr RT den} {ρ : Type} {lp : Lp RT den ρ} {inls : List Nat} {ops : Array Oper} {kk : St RT den → Option ρ} {r : ρ} {fz : FzS} {x : Nat × (Oper × Nat)} {q : List (Nat × (Oper × Nat))} (hx : cpsB inls x.1 = false) : ∀ (p : List (Nat × (Oper × Nat))) (s : St RT den), Fz E ops fz s → PlaceOk fz inls s.objs.length x → (∀ y ∈ p, PlaceOk fz inls s.objs.length y) → (∀ y ∈ p, y.2.1 ∈ ops.toList) →
  (∀ y ∈ p, cpsB inls y.1 = false ∧ pairOk pc.has pc.lend pc.dp pc.pl fz inls ops y.1 x.1 y.2.1 x.2.1 = true) → RunsI E pc lp inls ops kk r (p ++ x :: q) s → RunsI E pc lp inls ops kk r (x :: (p ++ q)) s
 | [], s, _, _, _, _, _, h => h
 | y :: p, s, hf, hpx, hpy, hm, hp, h => by
  obtain ⟨hy, hsw⟩ := hp y (by simp)
  rw [List.cons_append, runsI_none hy] at h
  obtain ⟨s1, h1, h2⟩ := h
  have hlen := stepJ_len h1
  have h3 := bubble hx p s1 (hf.stepJ (hm y (by simp)) h1) (hpx.mono hlen) (fun z hz => (hpy z (by simp [hz])).mono hlen) (fun z hz => hm z (by simp [hz])) (fun z hz => hp z (by simp [hz])) h2
  rw [runsI_none hx] at h3
  obtain ⟨s2, h4, h5⟩ := h3
  obtain ⟨s3, h6, h7⟩ := swapJ hf (hpy y (by simp)) hpx hsw h1 h4
  rw [runsI_none hx]
  refine ⟨s3, h6, ?_⟩
  rw [List.cons_append, runsI_none hy]
  exact ⟨s2, h7, h5⟩
theorem pairOk_cps {has lend dp pl : Nat → Bool} {fz : FzS} {inls : List Nat} {ops : Array Oper} {i j : Nat} {x y : Oper} (h : pairOk has lend dp pl fz inls ops i j x y = true) : cpsB inls i = false ∧ cpsB inls j = false := by
 unfold pairOk at h
 unfold cpsB
 cases hi : siteOf inls i with
 | none =>
  cases hj : siteOf inls j with
  | none => exact ⟨rfl, rfl⟩
  | some b =>
   rw [hi, hj] at h
   simp only [Bool.and_eq_true] at h
   exact ⟨rfl, by dsimp only; rw [h.1]; rfl⟩
 | some a =>
  cases hj : siteOf inls j with
  | none =>
   rw [hi, hj] at h
   simp only [Bool.and_eq_true] at h
   exact ⟨by dsimp only; rw [h.1]; rfl, rfl⟩
  | some b => rw [hi, hj] at h; cases h
theorem onlyLit_cps {inls : List Nat} (h : onlyLit inls = true) (i : Nat) : cpsB inls i = false := by
 unfold cpsB
 induction inls with
 | nil => rfl
 | cons x l ih =>
  simp only [onlyLit, List.all_cons, Bool.and_eq_true] at h
  simp only [siteOf]
  cases hb : Nat.beq (x / 1000) i with
  | true => simp only [cond_true]; rw [h.1]; rfl
  | false => simp only [cond_false]; exact ih h.2
structure LitP (inls : List Nat) (fz : FzS) (β : Bet) (s : St RT den) (X : List (Nat × (Oper × Nat))) : Prop where
 at' : ∀ x ∈ X, ∀ site, siteOf inls x.1 = some site → isLitS site = true → fz.n ≤ x.2.2 + (site - 990) ∧ β (x.2.2 + (site - 990)) = none ∧ s.objs[x.2.2 + (site - 990)]? = some (.box false [])
def LitA (inls : List Nat) (x y : Nat × (Oper × Nat)) : Prop := ∀ a b, siteOf inls x.1 = some a → siteOf inls y.1 = some b → isLitS a = true → isLitS b = true → x.2.2 + (a - 990) ≠ y.2.2 + (b - 990)
def NoLit (inls : List Nat) : Prop := ∀ i a, siteOf inls i = some a → isLitS a = false
theorem LitP.place {inls : List Nat} {fz : FzS} {β : Bet} {s : St RT den} {X : List (Nat × (Oper × Nat))} (h : LitP inls fz β s X) {x : Nat × (Oper × Nat)} (hx : x ∈ X) : PlaceOk fz inls s.objs.length x := fun site hs hl => by
 obtain ⟨h1, _, h3⟩ := h.at' x hx site hs hl
 exact ⟨h1, (List.getElem?_eq_some_iff.1 h3).1⟩
theorem stepI_wp (hE : Ok E P) {pc : Pr RT den} (hpc : PrOk E P pc) {ρ : Type} {lp : Lp RT den ρ} {inls : List Nat} {r : ρ} (hin : onlyLit inls = true ∨ InlOk E P lp r ∧ NoLit inls) {n : Nat} {g : Array Value} {F0 : Was} {w0 : World} {ops : Array Oper} (hw : InN n g ops) (hna : inls = [] ∨ ops.toList.all noAlloc = true) {fz : FzS} (hfi : onlyLit inls = true ∨ ∀ s, Fz E ops fz (s : St RT den)) {kk : St RT den → Option ρ} {Q : Exit → Act → World → Prop}
  {x : Nat × (Oper × Nat)} {X : List (Nat × (Oper × Nat))} {F : Frz} {β : Bet} {s : St RT den} {a : Act} {w : World} (h : RelG E n g F0 w0 F β s a w) (hfz : Fz E ops fz s) (hx : ops[x.1]? = some x.2.1) (hX : ∀ y ∈ X, ops[y.1]? = some y.2.1) (hr : RunsI E pc lp inls ops kk r (x :: X) s) (hp : Pend E β s (x.2 :: X.map (·.2))) (hd : ∀ z ∈ X, isAlloc x.2.1.op = true → isAlloc z.2.1.op = true → x.2.2 ≠ z.2.2)
  (hlp : LitP inls fz β s (x :: X)) (hla : ∀ z ∈ X, LitA inls x z) {K : Act → World → Prop}
  (next : ∀ F' β' s' a' w', RelG E n g F0 w0 F' β' s' a' w' → Fz E ops fz s' → RunsI E pc lp inls ops kk r X s' → Pend E β' s' (X.map (·.2)) → LitP inls fz β' s' X → K a' w') : wpOp P ops Q x.1 K a w := by
 have hna' : ∀ F' β' s' a' w', RelG E n g F0 w0 F' β' s' a' w' → inls ≠ [] → Pend E β' s' (X.map (·.2)) := fun F' β' s' a' w' hrel hne q hq t ht => by
  obtain ⟨z, hz, rfl⟩ := List.mem_map.1 hq
  have := hna.resolve_left hne
  rw [List.all_eq_true] at this
  have := this z.2.1 (List.mem_of_getElem? (by rw [Array.getElem?_toList]; exact hX z hz))
  simp [noAlloc, ht] at this
 cases hc : cpsB inls x.1 with
 | false =>
  rw [runsI_none hc] at hr
  obtain ⟨s1, h1, h2⟩ := hr
  have hfz' := hfz.stepJ (List.mem_of_getElem? (by rw [Array.getElem?_toList]; exact hx)) h1
  unfold stepJ at h1
  cases hs : siteOf inls x.1 with
  | none =>
   rw [hs] at h1
   refine step_wpG hE hpc h hw hx h1 (fun t ht => hp x.2 (by simp) t ht) (fun F' β' a' w' hrel hlen hβ => ?_)
   refine next F' β' s1 a' w' hrel hfz' h2 (Pend.step hE (p := x.2) (fun q hq => hp q (by simp only [List.mem_cons]; exact .inr hq)) (fun q hq => by
    obtain ⟨z, hz, rfl⟩ := List.mem_map.1 hq
    exact hd z hz) hβ) ⟨fun z hz site hs' hl => ?_⟩
   obtain ⟨q1, q2, q3⟩ := hlp.at' z (by simp [hz]) site hs' hl
   have hne : inls ≠ [] := fun e => by subst e; cases hs'
   have hnal : ¬ isAlloc x.2.1.op = true := fun hal => by
    have := hna.resolve_left hne
    rw [List.all_eq_true] at this
    have := this x.2.1 (List.mem_of_getElem? (by rw [Array.getElem?_toList]; exact hx))
    cases hop : x.2.1.op <;> simp [noAlloc, isAlloc, hop] at this hal
   obtain ⟨r1, r2⟩ := hβ _ (List.getElem?_eq_some_iff.1 q3).1 q2 (fun e => hnal e.2) ⟨[], q3, rfl⟩
   exact ⟨q1, r1, r2.trans q3⟩
  | some site =>
   rw [hs] at h1
   have hne : inls ≠ [] := fun e => by subst e; cases hs
   dsimp only at h1
   cases hb : isLitS site with
   | false => rw [hb] at h1; cases h1
   | true =>
    rw [hb] at h1
    obtain ⟨q1, q2, q3⟩ := hlp.at' x (by simp) site hs hb
    refine lit_wpG hE h hw hx q2 h1 (fun F' β' a' w' hrel hβ => next F' β' s1 a' w' hrel hfz' h2 (hna' F' β' s1 a' w' hrel hne) ⟨fun z hz site' hs' hl => ?_⟩)
    obtain ⟨r1, r2, r3⟩ := hlp.at' z (by simp [hz]) site' hs' hl
    have hap := hla z hz site site' hs hs' hb hl
    obtain ⟨t1, t2⟩ := hβ _ (Ne.symm hap)
    exact ⟨r1, t1.trans r2, t2.trans r3⟩
 | true =>
  have hne : onlyLit inls ≠ true := fun e => by rw [onlyLit_cps e] at hc; cases hc
  have hne' : inls ≠ [] := fun e => by subst e; cases hc
  obtain ⟨hin, hno⟩ := hin.resolve_left hne
  obtain ⟨site, hiff⟩ := runsI_some (E := E) (pc := pc) (lp := lp) (ops := ops) (kk := kk) (r := r) (X := X) (s := s) hc
  rw [hiff] at hr
  obtain ⟨hg, k', hk', hv⟩ := hr
  unfold wpOp
  rw [hx]
  dsimp only
  rw [if_pos (by simp [Region.wanted, hg])]
  exact .inl (inl_wp hE hin h (inN_get hw hx) hv (fun F' β' s' a' w' hrel hk => next F' β' s' a' w' hrel (hfi.resolve_left hne s') (hk' s' hk) (hna' F' β' s' a' w' hrel hne') ⟨fun z hz site' hs' hl => by rw [hno _ _ hs'] at hl; cases hl⟩))
theorem steps_wp (hE : Ok E P) {pc : Pr RT den} (hpc : PrOk E P pc) {ρ : Type} {lp : Lp RT den ρ} {inls : List Nat} {r : ρ} (hin : onlyLit inls = true ∨ InlOk E P lp r ∧ NoLit inls) {n : Nat} {g : Array Value} {F0 : Was} {w0 : World} {ops : Array Oper} (hw : InN n g ops) (hna : inls = [] ∨ ops.toList.all noAlloc = true) {fz : FzS} (hfi : onlyLit inls = true ∨ ∀ s, Fz E ops fz (s : St RT den)) {kk : St RT den → Option ρ} {Q : Exit → Act → World → Prop}
  (last : ∀ F' β' s' a' w', RelG E n g F0 w0 F' β' s' a' w' → kk s' = some r → Q .normal a' w') : ∀ (X : List (Nat × (Oper × Nat))) {F : Frz} {β : Bet} {s : St RT den} {a : Act} {w : World}, RelG E n g F0 w0 F β s a w → Fz E ops fz s → (∀ x ∈ X, ops[x.1]? = some x.2.1) →
   RunsI E pc lp inls ops kk r X s → Pend E β s (X.map (·.2)) → Apart (X.map (·.2)) → LitP inls fz β s X → X.Pairwise (LitA inls) → wpOps P ops Q (X.map (·.1)) a w
 | [], F, β, s, a, w, h, _, _, hr, _, _, _, _ => last F β s a w h hr
 | x :: X, F, β, s, a, w, h, hfz, hx, hr, hp, hd, hlp, hla => by
  rw [List.map_cons, wpOps_cons]
  simp only [Apart, List.map_cons, List.pairwise_cons] at hd
  rw [List.pairwise_cons] at hla
  refine stepI_wp hE hpc hin hw hna hfi h hfz (hx x (by simp)) (fun y hy => hx y (by simp [hy])) hr (by simpa using hp) (fun z hz => hd.1 z.2 (List.mem_map.2 ⟨z, hz, rfl⟩)) hlp hla.1 (fun F' β' s' a' w' hr' hfz' hru hp' hlp' => ?_)
  exact steps_wp hE hpc hin hw hna hfi last X hr' hfz' (fun y hy => hx y (by simp [hy])) hru hp' hd.2 hlp' hla.2
theorem any_wp (hE : Ok E P) {pc : Pr RT den} (hpc : PrOk E P pc) {ρ : Type} {lp : Lp RT den ρ} {inls : List Nat} {r : ρ} (hin : onlyLit inls = true ∨ InlOk E P lp r ∧ NoLit inls) {m : Nat} {g : Array Value} {F0 : Was} {w0 : World} {ops : Array Oper} (hw : InN m g ops) (hna : inls = [] ∨ ops.toList.all noAlloc = true) {fz : FzS} (hfi : onlyLit inls = true ∨ ∀ s, Fz E ops fz (s : St RT den))
  (hok : drawOkI pc.has pc.lend pc.dp pc.pl fz inls ops = true) {kk : St RT den → Option ρ} {Q : Exit → Act → World → Prop}
  (last : ∀ F' β' s' a' w', RelG E m g F0 w0 F' β' s' a' w' → kk s' = some r → Q .normal a' w') : ∀ (n : Nat) (X : List (Nat × (Oper × Nat))) (listed : Array Bool) {F : Frz} {β : Bet} {s : St RT den} {a : Act} {w : World}, X.length = n → RelG E m g F0 w0 F β s a w → Fz E ops fz s →
   (∀ x ∈ X, ops[x.1]? = some x.2.1) → RunsI E pc lp inls ops kk r X s → Pend E β s (X.map (·.2)) → Apart (X.map (·.2)) → X.Pairwise (fun x y => x.1 < y.1) →
   (∀ i, i < ops.size → (listed.getD i true = false ↔ i ∈ X.map (·.1))) → (∀ i y, i < ops.size → i ∉ X.map (·.1) → Anc ops i y → y ∉ X.map (·.1)) → LitP inls fz β s X → X.Pairwise (fun x y => LitA inls x y ∧ LitA inls y x) →
   wpAny P .any ops Q n listed a w := by
 simp only [drawOkI, Bool.and_eq_true] at hok
 obtain ⟨hok1, hok2⟩ := hok
 have back : ∀ i o e, ops[i]? = some o → e ∈ o.after.toList → Region.binds .any e = true → e.on < i := by
  intro i o e ho he hb
  rw [List.all_eq_true] at hok1
  have hm : (o, i) ∈ ops.toList.zipIdx := List.mem_zipIdx_iff_getElem?.2 (by simpa using ho)
  have := hok1 _ hm
  rw [List.all_eq_true] at this
  have := this e he
  simpa [hb] using this
 have pair : ∀ i j x y, i < j → ops[i]? = some x → ops[j]? = some y → ¬ Anc ops j i → pairOk pc.has pc.lend pc.dp pc.pl fz inls ops i j x y = true := by
  intro i j x y hij hx hy hna'
  rw [List.all_eq_true] at hok2
  have hj : j < ops.size := (Array.getElem?_eq_some_iff.1 hy).1
  have := hok2 j (by simpa using hj)
  rw [List.all_eq_true] at this
  have := this i (by simpa using hij)
  simp only [Bool.or_eq_true, hx, hy] at this
  rcases this with h | h
  ·exact absurd (masks_sound ops.toList [] (fun j o hj => by simpa using hj) (by simp) j i h) hna'
  ·exact h
 intro n
 induction n with
 | zero =>
  intro X listed F β s a w hn h hfz hX hr hp hd hsort hl hcl hlp hla
  have hX0 : X = [] := List.length_eq_zero_iff.1 hn
  subst hX0
  refine ⟨?_, last F β s a w h hr⟩
  simp only [Region.ready, List.filter_eq_nil_iff, List.mem_range, Bool.and_eq_true, not_and]
  intro i hi hc
  have := hl i hi
  simp at hc
  simp [hc] at this
 | succ n ih =>
  intro X listed F β s a w hn h hfz hX hr hp hd hsort hl hcl hlp hla
  refine ⟨fun hnil => ?_, fun i hi => ?_⟩
  ·
   exfalso
   cases X with
   | nil => simp at hn
   | cons x X =>
    have hx := hX x (by simp)
    have hlt : x.1 < ops.size := (Array.getElem?_eq_some_iff.1 hx).1
    have hmem : x.1 ∈ Region.ready .any ops listed := by
     simp only [Region.ready, List.mem_filter, List.mem_range, Bool.and_eq_true]
     refine ⟨hlt, ?_, ?_⟩
     ·have := (hl x.1 hlt).2 (by simp)
      simp [this]
     ·simp only [hx, Option.map_some, Option.getD_some]
      rw [← Array.all_toList, List.all_eq_true]
      intro e he
      cases hb : Region.binds .any e with
      | false => rfl
      | true =>
       simp only [Bool.not_true, Bool.false_or]
       have hlt' := back x.1 x.2.1 e hx he hb
       have hsz : e.on < ops.size := by omega
       have hno : e.on ∉ (x :: X).map (·.1) := by
        intro hm
        obtain ⟨y, hy, he'⟩ := List.mem_map.1 hm
        simp only [List.mem_cons] at hy
        rcases hy with rfl | hy
        ·omega
        ·have := List.rel_of_pairwise_cons hsort hy
         omega
       have hne : listed.getD e.on true ≠ false := fun hf => hno ((hl e.on hsz).1 hf)
       by_cases hls : e.on < listed.size
       ·simp only [Array.getD, hls, dif_pos] at hne ⊢
        simpa using hne
       ·
        have h1 : listed.getD x.1 true = false := (hl x.1 hlt).2 (by simp)
        have : ¬ x.1 < listed.size := by omega
        simp [Array.getD, this] at h1
    rw [hnil] at hmem
    simp at hmem
  ·simp only [Region.ready, List.mem_filter, List.mem_range, Bool.and_eq_true, Bool.not_eq_true'] at hi
   obtain ⟨hsz, hun, hall⟩ := hi
   obtain ⟨p, x, q, rfl, rfl⟩ := split_at' ((hl i hsz).1 hun)
   have hx := hX x (by simp)
   have hlsz : x.1 < listed.size := by
    by_cases hh : x.1 < listed.size
    ·exact hh
    ·simp [Array.getD, hh] at hun
   have direct : ∀ e ∈ x.2.1.after.toList, Region.binds .any e = true → e.on < ops.size ∧ e.on ∉ (p ++ x :: q).map (·.1) := by
    intro e he hb
    simp only [hx, Option.map_some, Option.getD_some] at hall
    rw [← Array.all_toList, List.all_eq_true] at hall
    have := hall e he
    simp only [hb, Bool.not_true, Bool.false_or] at this
    have hlt := back x.1 x.2.1 e hx he hb
    have h1 : e.on < ops.size := by omega
    refine ⟨h1, fun hm => ?_⟩
    have hf := (hl e.on h1).2 hm
    have h2 : e.on < listed.size := by omega
    simp only [Array.getD, h2, dif_pos] at hf this
    rw [hf] at this
    simp at this
   have anc : ∀ y, Anc ops x.1 y → y ∉ (p ++ x :: q).map (·.1) := by
    intro y hy
    cases hy with
    | edge ho he hb =>
     rw [hx] at ho; cases ho
     exact (direct _ he hb).2
    | far ho he hb hy =>
     rw [hx] at ho; cases ho
     obtain ⟨h1, h2⟩ := direct _ he hb
     exact hcl _ y h1 h2 hy
   have hsort' := List.pairwise_append.1 hsort
   have hpx : ∀ y ∈ p, y.1 < x.1 := fun y hy => hsort'.2.2 y hy x (by simp)
   have hxq : ∀ y ∈ q, x.1 < y.1 := fun y hy => List.rel_of_pairwise_cons hsort'.2.1 hy
   have hr' : RunsI E pc lp inls ops kk r (x :: (p ++ q)) s := by
    have hin : ∀ z ∈ p, z.2.1 ∈ ops.toList := fun z hz => by
     have := hX z (by simp [hz])
     exact List.mem_of_getElem? (by rw [Array.getElem?_toList]; exact this)
    have hpr : ∀ z ∈ p, pairOk pc.has pc.lend pc.dp pc.pl fz inls ops z.1 x.1 z.2.1 x.2.1 = true := fun z hz =>
     pair z.1 x.1 z.2.1 x.2.1 (hpx z hz) (hX z (by simp [hz])) hx (fun ha => anc _ ha (by simp only [List.map_append, List.mem_append]; exact .inl (List.mem_map.2 ⟨z, hz, rfl⟩)))
    cases p with
    | nil => exact hr
    | cons z p => exact bubble (pairOk_cps (hpr z (by simp))).2 (z :: p) s hfz (hlp.place (by simp)) (fun y hy => hlp.place (by simp only [List.mem_append]; exact .inl hy)) hin (fun y hy => ⟨(pairOk_cps (hpr y hy)).1, hpr y hy⟩) hr
   have hd' : (∀ z ∈ p ++ q, isAlloc x.2.1.op = true → isAlloc z.2.1.op = true → x.2.2 ≠ z.2.2) ∧ Apart ((p ++ q).map (·.2)) := by
    simp only [Apart, List.map_append, List.map_cons] at hd
    have hd2 := List.pairwise_append.1 hd
    have hd3 := List.pairwise_cons.1 hd2.2.1
    refine ⟨fun z hz ha hb => ?_, ?_⟩
    ·rcases List.mem_append.1 hz with hz | hz
     ·exact (hd2.2.2 z.2 (List.mem_map.2 ⟨z, hz, rfl⟩) x.2 (by simp) hb ha).symm
     ·exact hd3.1 z.2 (List.mem_map.2 ⟨z, hz, rfl⟩) ha hb
    ·simp only [Apart, List.map_append]
     exact List.pairwise_append.2 ⟨hd2.1, hd3.2, fun a ha b hb => hd2.2.2 a ha b (by simp only [List.mem_cons]; exact .inr hb)⟩
   have hla' := List.pairwise_append.1 hla
   have hla1 : ∀ z ∈ p ++ q, LitA inls x z := fun z hz => by
    rcases List.mem_append.1 hz with hz | hz
    ·exact (hla'.2.2 z hz x (by simp)).2
    ·exact (List.rel_of_pairwise_cons hla'.2.1 hz).1
   have hla2 : (p ++ q).Pairwise (fun x y => LitA inls x y ∧ LitA inls y x) := List.pairwise_append.2 ⟨hla'.1, (List.pairwise_cons.1 hla'.2.1).2, fun a ha b hb => hla'.2.2 a ha b (by simp [hb])⟩
   have hin' : ∀ y ∈ p ++ q, ops[y.1]? = some y.2.1 := fun y hy => hX y (by
     rcases List.mem_append.1 hy with hy | hy <;> simp [hy])
   refine stepI_wp hE hpc hin hw hna hfi h hfz hx hin' hr' (fun z hz => hp z (by
     simp only [List.map_append, List.map_cons, List.mem_append, List.mem_cons] at hz ⊢
     rcases hz with hz | hz | hz
     ·exact .inr (.inl hz)
     ·exact .inl hz
     ·exact .inr (.inr hz))) hd'.1 ⟨fun z hz => hlp.at' z (by
     simp only [List.mem_append, List.mem_cons] at hz ⊢
     rcases hz with hz | hz | hz
     ·exact .inr (.inl hz)
     ·exact .inl hz
     ·exact .inr (.inr hz))⟩ hla1 (fun F' β' s' a' w' hrel hfz' hru hp' hlp' => ?_)
   refine ih (p ++ q) (listed.setIfInBounds x.1 true) (by simp at hn ⊢; omega) hrel hfz' hin' hru hp' hd'.2 ?_ ?_ ?_ hlp' hla2
   ·exact List.pairwise_append.2 ⟨hsort'.1, (List.pairwise_cons.1 hsort'.2.1).2, fun a ha b hb => hsort'.2.2 a ha b (by simp [hb])⟩
   ·intro k hk
    by_cases hkx : k = x.1
    ·subst hkx
     have e1 : (listed.setIfInBounds x.1 true).getD x.1 true = true := by simp [Array.getD, hlsz]
     rw [e1]
     constructor
     ·intro hh; simp at hh
     ·intro hm
      exfalso
      obtain ⟨y, hy, he⟩ := List.mem_map.1 hm
      rcases List.mem_append.1 hy with hy | hy
      ·have := hpx y hy; omega
      ·have := hxq y hy; omega
    ·have e1 : (listed.setIfInBounds x.1 true).getD k true = listed.getD k true := by
      by_cases hks : k < listed.size
      ·simp [Array.getD, hks, Ne.symm hkx]
      ·simp [Array.getD, hks]
     rw [e1, hl k hk]
     simp only [List.map_append, List.map_cons, List.mem_append, List.mem_cons]
     constructor
     ·rintro (h | h | h)
      ·exact .inl h
      ·exact absurd h hkx
      ·exact .inr h
     ·rintro (h | h)
      ·exact .inl h
      ·exact .inr (.inr h)
   ·intro k y hk hno ha hm
    have hm' : y ∈ (p ++ x :: q).map (·.1) := by
     simp only [List.map_append, List.map_cons, List.mem_append, List.mem_cons] at hm ⊢
     rcases hm with h | h
     ·exact .inl h
     ·exact .inr (.inr h)
    by_cases hkx : k = x.1
    ·subst hkx; exact anc y ha hm'
    ·refine hcl k y hk (fun hmm => hno ?_) ha hm'
     simp only [List.map_append, List.map_cons, List.mem_append, List.mem_cons] at hmm ⊢
     rcases hmm with h | h | h
     ·exact .inl h
     ·exact absurd h hkx
     ·exact .inr h
theorem region_core (hE : Ok E P) {pc : Pr RT den} (hpc : PrOk E P pc) {ρ : Type} {lp : Lp RT den ρ} {inls : List Nat} {r : ρ} (hin : onlyLit inls = true ∨ InlOk E P lp r ∧ NoLit inls) {n : Nat} {g : Array Value} {F0 : Was} {w0 : World} {F : Frz} {β : Bet} {s : St RT den} {a : Act} {w : World} (h : RelG E n g F0 w0 F β s a w) {id : Nat} {ops : Array Oper} {draw : Bool} (hw : InN n g ops) (hna : inls = [] ∨ ops.toList.all noAlloc = true) {fz : FzS} (hfi : onlyLit inls = true ∨ ∀ s, Fz E ops fz (s : St RT den))
  (hd : (!draw || drawOkI pc.has pc.lend pc.dp pc.pl fz inls ops) = true) {os : List (Ob RT den)} (hos : fresh E ops.toList = some os ∨ ops.toList.all noAlloc = true) (hfz : Fz E ops fz ({ s with objs := s.objs ++ os } : St RT den)) (hlp : LitP inls fz β ({ s with objs := s.objs ++ os } : St RT den) ((places ops.toList s.objs.length).zipIdx.map fun p => (p.2, p.1))) (hla : ((places ops.toList s.objs.length).zipIdx.map fun p => (p.2, p.1)).Pairwise (fun x y => LitA inls x y ∧ LitA inls y x)) {kk : St RT den → Option ρ} {Q : Exit → Act → World → Prop}
  (hrun : RunsI E pc lp inls ops kk r ((places ops.toList s.objs.length).zipIdx.map fun p => (p.2, p.1)) { s with objs := s.objs ++ os })
  (last : ∀ F' β' s' a' w', RelG E n g F0 w0 F' β' s' a' w' → kk s' = some r → Q .normal a' w') : (Code.region id ops draw).wp P Q a w := by
 have hpush : RelG E n g F0 w0 F β { s with objs := s.objs ++ os } a w := ⟨h.1, h.2.push os⟩
 let X : List (Nat × (Oper × Nat)) := (places ops.toList s.objs.length).zipIdx.map fun p => (p.2, p.1)
 have hX2 : X.map (·.2) = places ops.toList s.objs.length := by
  simp only [X, List.map_map]
  have : ((fun x : Nat × (Oper × Nat) => x.2) ∘ fun p : (Oper × Nat) × Nat => (p.2, p.1)) = Prod.fst := rfl
  rw [this, List.zipIdx_map_fst]
 have hX1 : X.map (·.1) = List.range ops.size := by
  simp only [X, List.map_map]
  have : ((fun x : Nat × (Oper × Nat) => x.1) ∘ fun p : (Oper × Nat) × Nat => (p.2, p.1)) = Prod.snd := rfl
  rw [this, List.zipIdx_map_snd, places_len, List.range_eq_range']
  simp
 have hget : ∀ x ∈ X, ops[x.1]? = some x.2.1 := by
  intro x hx
  obtain ⟨p, hp, rfl⟩ := List.mem_map.1 hx
  have := places_get ops.toList _ p.2 p.1 (List.mem_zipIdx_iff_getElem?.1 hp)
  simpa using this
 have hpend : Pend E β { s with objs := s.objs ++ os } (X.map (·.2)) := by
  rw [hX2]
  intro p hp t ht
  rcases hos with hos | hos
  rotate_left
  ·obtain ⟨i, hi, he⟩ := List.getElem_of_mem hp
   have hg := places_get ops.toList _ i p (by rw [List.getElem?_eq_getElem hi, he])
   rw [List.all_eq_true] at hos
   have := hos p.1 (List.mem_of_getElem? hg)
   simp [noAlloc, ht] at this
  refine ⟨?_, places_pend ops.toList os s.objs hos p hp t ht⟩
  have hge := places_ge _ _ p hp
  cases hb : β p.2 with
  | none => rfl
  | some b => have := (h.2.names p.2 b.1 b.2 hb).2.2.2; omega
 have hapart : Apart (X.map (·.2)) := by rw [hX2]; exact places_apart _ _
 cases draw with
 | false =>
  refine wp_region ?_
  rw [← hX1]
  exact steps_wp hE hpc hin hw hna hfi last X hpush hfz hget hrun hpend hapart hlp (hla.imp fun h => h.1)
 | true =>
  have hok : drawOkI pc.has pc.lend pc.dp pc.pl fz inls ops = true := by simpa using hd
  refine wp_region_any hE.mixed ?_
  have hkd : Keeps F w { w with drawn := w.drawn + 1 } := fun b o u _ hc => hc
  have hdr : RelG E n g F0 w0 F β { s with objs := s.objs ++ os } a { w with drawn := w.drawn + 1 } := by
   refine ⟨h.1, ?_⟩
   have hpush := hpush.2
   refine ⟨hpush.defers, hpush.size, fun i d hd => (hpush.slots i d hd).mono (fun _ _ h => h) hkd (Bet.le_refl _), fun o ob ho b m hb => (hpush.objs o ob ho b m hb).mono (fun _ _ h => h) hkd rfl (Bet.le_refl _), hpush.names, hpush.inj, hpush.below.trans ⟨rfl, rfl, rfl, Nat.le_refl _, fun _ _ _ => rfl⟩, hpush.frz, hpush.frz1, hpush.frz2, hpush.place, hpush.placeH, hpush.hid.step (fun _ h => h) (fun _ _ h => h) (fun _ _ h => .inl h) hkd (Nat.le_refl _) rfl (fun o b m hb => .inl ⟨m, hb⟩) (fun _ _ h _ => h) (fun o l τ n p f ho b m hb => ⟨ho, hb, rfl⟩) (fun _ _ _ _ _ => rfl) (Nat.le_refl _)⟩
  have hXlen : X.length = ops.size := by
   have := congrArg List.length hX1
   simpa using this
  have hsort : X.Pairwise (fun x y => x.1 < y.1) := by
   have : (X.map (·.1)).Pairwise (· < ·) := by rw [hX1]; exact List.pairwise_lt_range
   exact List.pairwise_map.1 this
  refine any_wp hE hpc hin hw hna hfi hok last ops.size X _ hXlen hdr hfz hget hrun hpend hapart hsort ?_ ?_ hlp hla
  ·intro i hi
   rw [hX1]
   simp [Array.getD, hi]
  ·intro i y hi hno
   rw [hX1] at hno
   simp at hno
   omega
theorem drawOkI_nil {has lend dp pl : Nat → Bool} {fz : FzS} {ops : Array Oper} : drawOkI has lend dp pl fz [] ops = drawOk has lend dp pl fz ops := by
 simp [drawOkI, drawOk, pairOk, siteOf]
theorem region_core0 (hE : Ok E P) {pc : Pc RT den} (hpc : PrOk E P pc.run) {n : Nat} {g : Array Value} {F0 : Was} {w0 : World} {F : Frz} {β : Bet} {s : St RT den} {a : Act} {w : World} (h : RelG E n g F0 w0 F β s a w) {id : Nat} {ops : Array Oper} {draw : Bool} (hw : InN n g ops)
  {ρ : Type} {k : St RT den → Option ρ} {r : ρ} (hd : (!draw || drawOk pc.has pc.lend pc.dp pc.pl (fzS E ops s) ops) = true) {os : List (Ob RT den)} (hos : fresh E ops.toList = some os) (hv : evOps E pc ops (places ops.toList s.objs.length) { s with objs := s.objs ++ os } k = some r) {Q : Exit → Act → World → Prop}
  (next : ∀ F' β' s' a' w', RelG E n g F0 w0 F' β' s' a' w' → runOps E pc.run ops (places ops.toList s.objs.length) { s with objs := s.objs ++ os } = some s' → k s' = some r → Q .normal a' w') : (Code.region id ops draw).wp P Q a w := by
 obtain ⟨s', hrun, hk⟩ := evOps_run _ _ _ hv
 have hX2 : ((places ops.toList s.objs.length).zipIdx.map fun p => (p.2, p.1)).map (·.2) = places ops.toList s.objs.length := by
  simp only [List.map_map]
  have : ((fun x : Nat × (Oper × Nat) => x.2) ∘ fun p : (Oper × Nat) × Nat => (p.2, p.1)) = Prod.fst := rfl
  rw [this, List.zipIdx_map_fst]
 refine region_core (ρ := Unit) (lp := ⟨fun _ _ _ => none, fun _ _ _ _ => none⟩) (inls := []) (r := ()) (kk := fun s1 => open Classical in if s1 = s' then some () else none) hE hpc (.inl rfl) h hw (.inl rfl) (.inl rfl) (by rw [drawOkI_nil]; exact hd) (.inl hos) (fzOf_fz ops s os) ⟨fun x hx site hs => by cases hs⟩ (List.pairwise_of_forall fun x y => ⟨fun a b ha => (by cases ha), fun a b ha => (by cases ha)⟩) (runsI_of (s' := s') (by simp) _ _ (by rw [hX2]; exact hrun)) (fun F' β' s1 a' w' hr hs => ?_)
 have e : s1 = s' := by
  by_cases he : s1 = s'
  ·exact he
  ·simp [he] at hs
 subst e
 exact next F' β' s1 a' w' hr hrun hk
theorem step_keeps {pc : Pr RT den} {ops : Array Oper} {p : Oper × Nat} {s s' : St RT den} (hst : calm pc.has p.1.op = true) (h : stepOp E pc ops p s = some s') :
  s'.objs = s.objs ∧ s'.slots.length = s.slots.length ∧ ∀ i, p.1.dst ≠ some i → s'.slots[i]? = s.slots[i]? := by
 rw [stepOp_still hst, Option.bind_eq_some_iff] at h
 obtain ⟨d, _, h⟩ := h
 have h := Option.some.inj h; subst h
 refine ⟨put_objs, ?_, fun i hi => ?_⟩
 ·cases p.1.dst <;> simp [St.put]
 ·cases hd : p.1.dst with
  | none => rfl
  | some t =>
   simp only [St.put]
   rw [List.getElem?_set_ne]
   intro e; subst e; exact hi hd
theorem run_keeps {pc : Pr RT den} {ops : Array Oper} : ∀ (l : List (Oper × Nat)) (s s' : St RT den), (∀ p ∈ l, calm pc.has p.1.op = true) → runOps E pc ops l s = some s' →
  s'.objs = s.objs ∧ s'.slots.length = s.slots.length ∧ ∀ i, (∀ p ∈ l, p.1.dst ≠ some i) → s'.slots[i]? = s.slots[i]?
 | [], s, s', _, h => by
  simp only [runOps, Option.some.injEq] at h
  subst h; exact ⟨rfl, rfl, fun _ _ => rfl⟩
 | p :: l, s, s', hs, h => by
  simp only [runOps, Option.bind_eq_some_iff] at h
  obtain ⟨s1, h1, h2⟩ := h
  obtain ⟨a1, a2, a3⟩ := step_keeps (hs p (by simp)) h1
  obtain ⟨b1, b2, b3⟩ := run_keeps l s1 s' (fun q hq => hs q (by simp [hq])) h2
  exact ⟨b1.trans a1, b2.trans a2, fun i hi => (b3 i (fun q hq => hi q (by simp [hq]))).trans (a3 i (hi p (by simp)))⟩
theorem mask_slots : ∀ (l : List Nat) (s : St RT den), (s.mask l).objs = s.objs ∧ (s.mask l).slots.length = s.slots.length ∧ ∀ i, (s.mask l).slots[i]? = if i ∈ l then s.slots[i]?.map (fun _ => .q) else s.slots[i]?
 | [], s => ⟨rfl, rfl, fun i => by simp [St.mask]⟩
 | j :: l, s => by
  obtain ⟨h1, h2, h3⟩ := mask_slots l { s with slots := s.slots.set j .q }
  refine ⟨h1, by rw [show (s.mask (j :: l)) = (({ s with slots := s.slots.set j .q } : St RT den).mask l) from rfl, h2]; simp, fun i => ?_⟩
  rw [show (s.mask (j :: l)) = (({ s with slots := s.slots.set j .q } : St RT den).mask l) from rfl, h3]
  by_cases hij : j = i
  ·subst hij
   by_cases hl : j < s.slots.length
   ·by_cases hm : j ∈ l <;> simp [hm, hl]
   ·by_cases hm : j ∈ l <;> simp [hm, hl]
  ·have hne : i ≠ j := fun e => hij e.symm
   by_cases hm : i ∈ l <;> simp [hm, hne, List.getElem?_set_ne hij]
theorem region_wp (hE : Ok E P) {pc : Pc RT den} (hpc : PrOk E P pc.run) {n : Nat} {g : Array Value} {F0 : Was} {w0 : World} {F : Frz} {β : Bet} {s : St RT den} {a : Act} {w : World} (h : RelG E n g F0 w0 F β s a w) {id : Nat} {ops : Array Oper} {draw : Bool} {mg : Option Nat}
  (hw : InN n g ops) {ρ : Type} {k : St RT den → Option ρ} {r : ρ} (hv : evRegion E pc ops draw mg s k = some r) {Q : Exit → Act → World → Prop} (mask : ∀ {F β s a w}, Rel E F0 w0 F β s a w → ∀ l, Rel E F0 w0 F β (s.mask l) a w)
  (next : ∀ F' β' s' a' w', RelG E n g F0 w0 F' β' s' a' w' → k s' = some r → Q .normal a' w') : (Code.region id ops draw).wp P Q a w := by
 unfold evRegion at hv
 cases mg with
 | none =>
  dsimp only at hv
  cases hd : (!draw || drawOk pc.has pc.lend pc.dp pc.pl (fzS E ops s) ops) with
  | false => simp [hd] at hv
  | true =>
   simp only [hd, cond_true, Option.bind_eq_some_iff] at hv
   obtain ⟨os, hos, hv⟩ := hv
   exact region_core0 hE hpc h hw hd hos hv (fun F' β' s' a' w' hr _ hk => next F' β' s' a' w' hr hk)
 | some t =>
  dsimp only at hv
  cases hd : ((!draw || drawOk pc.has pc.lend pc.dp pc.pl (fzS E ops s) ops) && ops.toList.all (fun o => calm pc.has o.op)) with
  | false => rw [hd] at hv; simp at hv
  | true =>
   rw [hd] at hv
   simp only [cond_true, Option.bind_eq_some_iff] at hv
   obtain ⟨os, hos, m, hm, hk⟩ := hv
   simp only [Bool.and_eq_true] at hd
   refine region_core0 hE hpc h hw hd.1 hos hm (fun F' β' s' a' w' hr hrun hget => ?_)
   have hst : ∀ p ∈ places ops.toList s.objs.length, calm pc.has p.1.op = true := by
    intro p hp
    obtain ⟨i, hi, he⟩ := List.getElem_of_mem hp
    have hg := places_get ops.toList _ i p (by rw [List.getElem?_eq_getElem hi, he])
    have := hd.2
    rw [List.all_eq_true] at this
    exact this _ (List.mem_of_getElem? hg)
   obtain ⟨k1, k2, k3⟩ := run_keeps _ _ _ hst hrun
   have hb : s'.get t = .bool m := by
    cases hq : s'.get t <;> simp [hq] at hget
    rw [hget]
   let ds := (ops.toList.filterMap Oper.dst).filter (· != t)
   have heq : s'.mask ds = (({ s with objs := s.objs ++ os } : St RT den).mask ds).put (some t) (.bool m) := by
    obtain ⟨m1, m2, m3⟩ := mask_slots ds s'
    obtain ⟨n1, n2, n3⟩ := mask_slots ds { s with objs := s.objs ++ os }
    have hslots : (s'.mask ds).slots = ((({ s with objs := s.objs ++ os } : St RT den).mask ds).put (some t) (.bool m)).slots := by
     apply List.ext_getElem?
     intro i
     simp only [St.put]
     rw [m3]
     by_cases hit : t = i
     ·subst hit
      have htn : t ∉ ds := by simp [ds]
      rw [if_neg htn]
      by_cases hl : t < s'.slots.length
      ·have h2 : t < (({ s with objs := s.objs ++ os } : St RT den).mask ds).slots.length := by rw [n2]; simpa [k2] using hl
       simp only [List.getElem?_set_self h2]
       unfold St.get at hb
       rw [List.getD_eq_getElem?_getD, List.getElem?_eq_getElem hl] at hb
       rw [List.getElem?_eq_getElem hl]
       simpa using hb
      ·unfold St.get at hb
       rw [List.getD_eq_getElem?_getD, List.getElem?_eq_none (by omega)] at hb
       simp at hb
     ·rw [List.getElem?_set_ne hit, n3]
      by_cases hid : i ∈ ds
      ·rw [if_pos hid, if_pos hid]
       have hl : s'.slots.length = s.slots.length := k2
       by_cases hi : i < s.slots.length
       ·rw [List.getElem?_eq_getElem (by omega), List.getElem?_eq_getElem hi]; rfl
       ·rw [List.getElem?_eq_none (by omega), List.getElem?_eq_none (by simpa using hi)]
      ·rw [if_neg hid, if_neg hid]
       refine k3 i (fun p hp e => hid ?_)
       obtain ⟨j, hj, he⟩ := List.getElem_of_mem hp
       have hg := places_get ops.toList _ j p (by rw [List.getElem?_eq_getElem hj, he])
       simp only [ds, List.mem_filter, List.mem_filterMap, bne_iff_ne, ne_eq]
       exact ⟨⟨p.1, List.mem_of_getElem? hg, e⟩, fun e => hit e.symm⟩
    have hobjs : (s'.mask ds).objs = ((({ s with objs := s.objs ++ os } : St RT den).mask ds).put (some t) (.bool m)).objs := by
     rw [m1, put_objs, n1, k1]
    cases hx : s'.mask ds
    cases hy : (({ s with objs := s.objs ++ os } : St RT den).mask ds).put (some t) (.bool m)
    rw [hx, hy] at hslots hobjs
    simp only at hslots hobjs
    rw [hslots, hobjs]
   exact next F' β' _ a' w' (heq ▸ ⟨hr.1, mask hr.2 ds⟩) hk
theorem places_flat : ∀ (l : List Oper) (n : Nat), l.all noAlloc = true → ∀ p ∈ places l n, p.2 = n
 | [], n, _, p, hp => by simp [places] at hp
 | o :: l, n, h, p, hp => by
  simp only [List.all_cons, Bool.and_eq_true] at h
  simp only [places, List.mem_cons] at hp
  rcases hp with rfl | hp
  ·rfl
  ·split at hp
   ·rename_i t ht; have := h.1; simp [noAlloc, ht] at this
   ·exact places_flat l n h.2 p hp
theorem siteOf_mem {inls : List Nat} {i a : Nat} (h : siteOf inls i = some a) : ∃ x ∈ inls, x / 1000 = i ∧ x % 1000 = a := by
 induction inls with
 | nil => cases h
 | cons x l ih =>
  simp only [siteOf] at h
  cases hb : Nat.beq (x / 1000) i with
  | true =>
   rw [hb] at h
   exact ⟨x, by simp, Nat.eq_of_beq_eq_true hb, Option.some.inj h⟩
  | false =>
   rw [hb] at h
   obtain ⟨y, hy, e⟩ := ih h
   exact ⟨y, by simp [hy], e⟩
theorem nodups_mod {inls : List Nat} (h : nodups (inls.map (· % 1000)) = true) {x y : Nat} (hx : x ∈ inls) (hy : y ∈ inls) (e : x % 1000 = y % 1000) : x = y := by
 induction inls with
 | nil => cases hx
 | cons z l ih =>
  simp only [List.map_cons, nodups, Bool.and_eq_true, Bool.not_eq_true'] at h
  have hz : ∀ w ∈ l, w % 1000 ≠ z % 1000 := fun w hw e => by
   have : (l.map (· % 1000)).elem (z % 1000) = true := List.elem_iff.2 (List.mem_map.2 ⟨w, hw, e⟩)
   rw [h.1] at this; cases this
  simp only [List.mem_cons] at hx hy
  rcases hx with rfl | hx <;> rcases hy with rfl | hy
  ·rfl
  ·exact absurd e.symm (hz y hy)
  ·exact absurd e (hz x hx)
  ·exact ih h.2 hx hy
theorem siteOf_inj {inls : List Nat} (h : nodups (inls.map (· % 1000)) = true) {i j a : Nat} (hi : siteOf inls i = some a) (hj : siteOf inls j = some a) : i = j := by
 obtain ⟨x, hx, x1, x2⟩ := siteOf_mem hi
 obtain ⟨y, hy, y1, y2⟩ := siteOf_mem hj
 have := nodups_mod h hx hy (x2.trans y2.symm)
 subst this
 exact x1.symm.trans y1
theorem noLit_of {inls : List Nat} (h : (inls.all fun x => !isLitS (x % 1000)) = true) : NoLit inls := fun i a hi => by
 obtain ⟨x, hx, _, x2⟩ := siteOf_mem hi
 rw [List.all_eq_true] at h
 have := h x hx
 rw [x2] at this
 simpa using this
theorem siteOf_rank {inls : List Nat} (h : (inls.all fun x => !isLitS (x % 1000) || decide (x % 1000 - 990 < (inls.filter fun x => isLitS (x % 1000)).length)) = true) {i a : Nat} (hi : siteOf inls i = some a) (hl : isLitS a = true) : a - 990 < (inls.filter fun x => isLitS (x % 1000)).length := by
 obtain ⟨x, hx, _, x2⟩ := siteOf_mem hi
 rw [List.all_eq_true] at h
 have := h x hx
 rw [x2, hl] at this
 simpa using this
theorem regionI_wp (hE : Ok E P) {pc : Pc RT den} (hpc : PrOk E P pc.run) {ρ : Type} {lp : Lp RT den ρ} {r : ρ} (hin : InlOk E P lp r) {n : Nat} {g : Array Value} {F0 : Was} {w0 : World} {F : Frz} {β : Bet} {s : St RT den} {a : Act} {w : World} (h : RelG E n g F0 w0 F β s a w) {id : Nat} {inls : List Nat} {ops : Array Oper} {draw : Bool} (hw : InN n g ops)
  {k : St RT den → Option ρ} (hv : evRegionI E pc lp inls ops draw s k = some r) {Q : Exit → Act → World → Prop}
  (next : ∀ F' β' s' a' w', RelG E n g F0 w0 F' β' s' a' w' → k s' = some r → Q .normal a' w') : (Code.region id ops draw).wp P Q a w := by
 unfold evRegionI at hv
 cases hd : ((!draw || drawOkI pc.has pc.lend pc.dp pc.pl (bif onlyLit inls then fzS E ops s else fzN E) inls ops) && ops.toList.all noAlloc) && litsOk inls with
 | false => rw [hd] at hv; cases hv
 | true =>
  rw [hd] at hv
  simp only [cond_true] at hv
  rw [Bool.and_eq_true, Bool.and_eq_true] at hd
  obtain ⟨hd, hlk⟩ := hd
  simp only [litsOk, Bool.and_eq_true] at hlk
  obtain ⟨hm, hnd, hrk⟩ := hlk
  have hf : ∀ s : St RT den, Fz E ops (fzN E) s := fun s => by
   have hz : ∀ pr : D RT den → Bool, Fz0 pr ops (fun _ => false) s := fun pr => by
    obtain ⟨s0, _, h2⟩ := fzB_fz (pr := pr) ops s s.objs
    exact ⟨s0, fun t h => (by cases h), h2⟩
   exact ⟨hz _, ⟨0, Nat.zero_le _, hz _⟩, ⟨0, ⟨Nat.zero_le _, Nat.zero_le _⟩, fun b k => hz _⟩, fun t h => h⟩
  have hpl : ∀ p ∈ places ops.toList s.objs.length, p.2 = s.objs.length := places_flat ops.toList s.objs.length hd.2
  cases ho : onlyLit inls with
  | false =>
   rw [ho] at hd hm
   simp only [Bool.false_or] at hm
   have hno := noLit_of hm
   have e : ({ s with objs := s.objs ++ litObs inls } : St RT den) = ({ s with objs := s.objs ++ litObs inls } : St RT den) := rfl
   exact region_core hE hpc (.inr ⟨hin, hno⟩) h hw (.inr hd.2) (.inr hf) hd.1 (.inr hd.2) (hf _) ⟨fun x hx site hs hl => by rw [hno _ _ hs] at hl; cases hl⟩ (List.pairwise_of_forall fun x y => ⟨fun a b ha hb hla => (by rw [hno _ _ ha] at hla; cases hla), fun a b ha hb hla => (by rw [hno _ _ ha] at hla; cases hla)⟩) (runsI_ev _ _ hv) next
  | true =>
   rw [ho] at hd
   have hmem : ∀ x ∈ (places ops.toList s.objs.length).zipIdx.map (fun p => (p.2, p.1)), x.2.2 = s.objs.length := fun x hx => by
    obtain ⟨p, hp, rfl⟩ := List.mem_map.1 hx
    exact hpl p.1 (List.mem_of_getElem? (List.mem_zipIdx_iff_getElem?.1 hp))
   refine region_core hE hpc (.inl ho) h hw (.inr hd.2) (.inl ho) hd.1 (.inr hd.2) (fzOf_fz ops s _) ⟨fun x hx site hs hl => ?_⟩ ?_ (runsI_ev _ _ hv) next
   ·rw [hmem x hx]
    have hk := siteOf_rank hrk hs hl
    refine ⟨Nat.le_add_right _ _, ?_, ?_⟩
    ·cases hb : β (s.objs.length + (site - 990)) with
     | none => rfl
     | some b => have := (h.2.names _ b.1 b.2 hb).2.2.2; omega
    ·show (s.objs ++ litObs inls)[_]? = _
     rw [List.getElem?_append_right (by omega), show s.objs.length + (site - 990) - s.objs.length = site - 990 by omega]
     simp only [litObs, List.getElem?_replicate]
     rw [if_pos hk]
   ·have hsort : ((places ops.toList s.objs.length).zipIdx.map fun p => (p.2, p.1)).Pairwise (fun x y => x.1 < y.1) := by
     have : (((places ops.toList s.objs.length).zipIdx.map fun p => (p.2, p.1)).map (·.1)).Pairwise (· < ·) := by
      simp only [List.map_map]
      have : ((fun x : Nat × (Oper × Nat) => x.1) ∘ fun p : (Oper × Nat) × Nat => (p.2, p.1)) = Prod.snd := rfl
      rw [this, List.zipIdx_map_snd, List.range'_eq_map_range]
      exact List.Pairwise.map _ (fun a b hab => by omega) List.pairwise_lt_range
     exact List.pairwise_map.1 this
    refine List.Pairwise.imp_of_mem (fun {x y} hx hy hlt => ?_) hsort
    have key : ∀ x y : Nat × (Oper × Nat), x.2.2 = s.objs.length → y.2.2 = s.objs.length → x.1 ≠ y.1 → LitA inls x y := fun x y ex ey hne a b ha hb hla hlb e => by
     rw [ex, ey] at e
     have h1 := Nat.le_of_ble_eq_true hla
     have h2 := Nat.le_of_ble_eq_true hlb
     have : a = b := by omega
     subst this
     exact hne (siteOf_inj hnd ha hb)
    exact ⟨key x y (hmem x hx) (hmem y hy) (by omega), key y x (hmem y hy) (hmem x hx) (by omega)⟩
end Go.Proofs.Ytjdgfkmiaikegaa.Vm

