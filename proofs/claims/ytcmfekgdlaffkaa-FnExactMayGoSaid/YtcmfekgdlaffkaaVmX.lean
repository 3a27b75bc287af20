/- The value machine: calls that lend rows or are handed rows, on the machine. Conditions: none. -/
import Derived.Test.YtcmfekgdlaffkaaVmW
namespace Go.Proofs.Ytcmfekgdlaffkaa.Vm
open Go Go.RowKit
set_option linter.unusedVariables false
set_option linter.unusedSimpArgs false
variable {RT : Type} {den : RT → Type} {E : Env RT den} {P : Program}
structure GoodX (E : Env RT den) (P : Program) (f : Nat) (xs : List (D RT den)) (ins : List (Ob RT den)) (r : D RT den) (outs : List (Ob RT den)) : Prop where
  fn : ∃ fn, P.funcs[f]? = some fn ∧ fn.body.isNone = false ∧ (fn.name == "runtime.NumGoroutine") = false
  len : ins.length ≤ outs.length
  calls : ∀ (F : Frz) (w : World) (β : Bet) (vs : Array Value), (∀ b o, F b o → b < w.heap.size) → xs.length = vs.size → (∀ i x, xs[i]? = some x → VRep E F w β x (vs.getD i Go.undef)) →
    (∀ o ob, ins[o]? = some ob → ∀ b m, β o = some (b, m) → ORep E F w β b m ob) → (∀ o b m, β o = some (b, m) → b < w.heap.size ∧ (∀ off, ¬ F b off) ∧ o < ins.length) → (∀ o o' b m m', β o = some (b, m) → β o' = some (b, m') → o = o') → (∀ o q, β.h o q = none) → (∀ (o : Nat) (ob : Ob RT den), ins[o]? = some ob → ob.dg = false) →
    Calls P f vs w (fun e w' => ∃ v F' β', e = .returned v ∧ Keep (fun b => ∃ o m, β o = some (b, m)) w.heap.size w w' ∧ (∀ b o, F b o → F' b o) ∧ (∀ b o, F' b o → F b o ∨ w.heap.size ≤ b) ∧ (∀ b o, F' b o → b < w'.heap.size) ∧
      VRep E F' w' β' r v ∧ (∀ o ob, outs[o]? = some ob → ∀ b m, β' o = some (b, m) → ORep E F' w' β' b m ob) ∧ (∀ o, o < ins.length → β' o = β o) ∧
      (∀ o b m, β' o = some (b, m) → b < w'.heap.size ∧ (∀ off, ¬ F' b off) ∧ o < outs.length ∧ (w.heap.size ≤ b ∨ ∃ m', β o = some (b, m'))) ∧ (∀ o o' b m m', β' o = some (b, m) → β' o' = some (b, m') → o = o') ∧ ∀ o q, β'.h o q = none)
structure GoodD (E : Env RT den) (P : Program) (f : Nat) (xs : List (D RT den)) (ins : List (Ob RT den)) (r : D RT den) (outs : List (Ob RT den)) : Prop where
  fn : ∃ fn, P.funcs[f]? = some fn ∧ fn.body.isNone = false ∧ (fn.name == "runtime.NumGoroutine") = false
  len : ins.length ≤ outs.length
  full : ∀ (k : Nat) l τ n p g, ins.length ≤ k → outs[k]? = some (Ob.deep l τ n p g) → n ≤ p
  calls : ∀ (F : Frz) (w : World) (β : Bet) (vs : Array Value), (∀ b o, F b o → b < w.heap.size) → xs.length = vs.size → (∀ i x, xs[i]? = some x → VRep E F w β x (vs.getD i Go.undef)) →
    (∀ o ob, ins[o]? = some ob → ∀ b m, β o = some (b, m) → ORep E F w β b m ob) → (∀ o b m, β o = some (b, m) → b < w.heap.size ∧ (∀ off, ¬ F b off) ∧ o < ins.length) → (∀ o o' b m m', β o = some (b, m) → β o' = some (b, m') → o = o') → Hid E β.has F β ins w →
    Calls P f vs w (fun e w' => ∃ v F' β', e = .returned v ∧ Keep β.has w.heap.size w w' ∧ (∀ b o, F b o → F' b o) ∧ (∀ b o, F' b o → F b o ∨ w.heap.size ≤ b) ∧ (∀ b o, F' b o → b < w'.heap.size) ∧
      VRep E F' w' β' r v ∧ (∀ o ob, outs[o]? = some ob → ∀ b m, β' o = some (b, m) → ORep E F' w' β' b m ob) ∧ (∀ o, o < ins.length → β' o = β o ∧ β'.h o = β.h o) ∧
      (∀ o b m, β' o = some (b, m) → b < w'.heap.size ∧ (∀ off, ¬ F' b off) ∧ o < outs.length ∧ (w.heap.size ≤ b ∨ β.has b)) ∧ (∀ o o' b m m', β' o = some (b, m) → β' o' = some (b, m') → o = o') ∧ Hid E (fun b => w.heap.size ≤ b ∨ β.has b) F' β' outs w')
structure GoodG (E : Env RT den) (P : Program) (f : Nat) (xs : List (D RT den)) (ins : List (Ob RT den)) (r : D RT den) (outs : List (Ob RT den)) : Prop where
  fn : ∃ fn, P.funcs[f]? = some fn ∧ fn.body.isNone = false ∧ (fn.name == "runtime.NumGoroutine") = false
  calls : ∀ (F : Frz) (w : World) (β : Bet) (vs : Array Value), (∀ b o, F b o → b < w.heap.size) → xs.length = vs.size → (∀ i x, xs[i]? = some x → VRep E F w β x (vs.getD i Go.undef)) →
    (∀ o ob, ins[o]? = some ob → ∀ b m, β o = some (b, m) → ORep E F w β b m ob) → (∀ o b m, β o = some (b, m) → b < w.heap.size ∧ (∀ off, ¬ F b off) ∧ o < ins.length) → (∀ o o' b m m', β o = some (b, m) → β o' = some (b, m') → o = o') → (∀ o q, β.h o q = none) →
    Calls P f vs w (fun e w' => ∃ v F' β', e = .returned v ∧ Keep (fun b => ∃ o m, β o = some (b, m)) w.heap.size w w' ∧ (∀ b o, F b o → F' b o) ∧ (∀ b o, F' b o → F b o ∨ w.heap.size ≤ b ∨ ∃ i m, β i = some (b, m)) ∧ (∀ b o, F' b o → b < w'.heap.size) ∧
      VRep E F' w' β' r v ∧ (∀ o ob, outs[o]? = some ob → ∀ b m, β' o = some (b, m) → ORep E F' w' β' b m ob) ∧
      (∀ o b m, β' o = some (b, m) → b < w'.heap.size ∧ (∀ off, ¬ F' b off) ∧ o < outs.length ∧ (w.heap.size ≤ b ∨ ∃ i m', β i = some (b, m'))) ∧ (∀ o o' b m m', β' o = some (b, m) → β' o' = some (b, m') → o = o') ∧ ∀ o q, β'.h o q = none)
structure PrOk (E : Env RT den) (P : Program) (pc : Pr RT den) : Prop where
  fn : ∀ f xs r, pc.fn f xs = some r → Good E P f xs r
  fx : ∀ f xs ins x, pc.gv f = false → pc.dp f = false → pc.fx f xs ins = some x → GoodX E P f xs ins x.1 x.2
  fd : ∀ f xs ins x, pc.gv f = false → pc.dp f = true → pc.fx f xs ins = some x → GoodD E P f xs ins x.1 x.2
  fg : ∀ f xs ins x, pc.gv f = true → pc.fx f xs ins = some x → GoodG E P f xs ins x.1 x.2
def D.lr : D RT den → Bool
  | .ref .. => true
  | d => d.lc
theorem D.lc_lr {d : D RT den} (h : d.lc = true) : d.lr = true := by
  cases d <;> first | exact h | rfl
theorem VRep.ren1 {F : Frz} {w : World} {β β' : Bet} {σ : Nat → Nat} {d : D RT den} {v : Value} (h : VRep E F w β d v) (hd : d.lr = true) (hσ : ∀ o, o ∈ d.ids1 → ∀ x, β o = some x → β' (σ o) = some x) : VRep E F w β' (d.ren1 σ) v := by
  cases h with
  | os o len cap b m hb hc hl => exact .os (σ o) len cap b m (hσ o (by simp [D.ids1]) _ hb) hc hl
  | os0 o a' k3 => exact .os0 (σ o) a' k3
  | ref o off b m hb => exact .ref (σ o) off b m (hσ o (by simp [D.ids1]) _ hb)
  | emp z τ a' k1 k2 k3 => exact .emp z τ a' k1 k2 k3
  | int k n => exact .int k n
  | bool b => exact .bool b
  | str b => exact .str b
  | nil => exact .nil
  | rptr cs b o u k1 k2 => exact .rptr cs b o u k1 k2
  | rs z τ n f a cap b o u k1 k2 k3 k4 k5 k6 k7 k8 => exact .rs z τ n f a cap b o u k1 k2 k3 k4 k5 k6 k7 k8
  | fn f cap vs h1 h2 =>
    have hp : (D.fn f cap : D RT den).pure = true := by simpa [D.lr, D.lc, D.hc, D.sc] using hd
    exact VRep.pure hp (.fn f cap vs h1 h2)
  | _ => simp [D.lr, D.lc, D.hc, D.sc, D.pure] at hd
theorem VRep.ren {F : Frz} {w : World} {β β' : Bet} {σ : Nat → Nat} {d : D RT den} {v : Value} (h : VRep E F w β d v) (hd : d.lx = true) (hσ : ∀ o, o ∈ d.ids → ∀ x, β o = some x → β' (σ o) = some x) : VRep E F w β' (d.ren σ) v := by
  cases h with
  | agg cs vs h1 h2 =>
    simp only [D.lx, List.all_eq_true] at hd
    refine .agg _ vs (by simpa using h1) (fun j c hc => ?_)
    rw [List.getElem?_map] at hc
    cases hq : cs[j]? with
    | none => rw [hq] at hc; cases hc
    | some c0 =>
      rw [hq] at hc
      simp only [Option.map_some, Option.some.injEq] at hc
      subst hc
      exact (h2 j c0 hq).ren1 (D.lc_lr (hd c0 (List.mem_of_getElem? hq))) (fun o ho => hσ o (by simp only [D.ids, List.mem_flatMap]; exact ⟨c0, List.mem_of_getElem? hq, ho⟩))
  | tup cs vs h1 h2 => exact VRep.scalar (d := .tup cs) hd (.tup cs vs h1 h2)
  | os o len cap b m hb hc hl => exact (VRep.os o len cap b m hb hc hl).ren1 hd hσ
  | os0 o a' k3 => exact (VRep.os0 o a' k3).ren1 hd hσ
  | ref o off b m hb => exact (VRep.ref o off b m hb).ren1 rfl hσ
  | emp z τ a' k1 k2 k3 => exact .emp z τ a' k1 k2 k3
  | int k n => exact .int k n
  | bool b => exact .bool b
  | str b => exact .str b
  | nil => exact .nil
  | rptr cs b o u k1 k2 => exact .rptr cs b o u k1 k2
  | rs z τ n f a cap b o u k1 k2 k3 k4 k5 k6 k7 k8 => exact .rs z τ n f a cap b o u k1 k2 k3 k4 k5 k6 k7 k8
  | fn f cap vs h1 h2 => exact (VRep.fn f cap vs h1 h2).ren1 hd hσ
  | _ => simp [D.lx, D.lc, D.hc, D.sc, D.pure] at hd
theorem D.hs_lx {d : D RT den} (h : d.hs = true) : d.lx = true := by
  cases d with
  | agg cs =>
    simp only [D.hs, D.lx, List.all_eq_true] at h ⊢
    exact fun c hc => by simp only [D.lc, h c hc, Bool.true_or]
  | tup ds => simp [D.hs, D.hc, D.sc] at h
  | ref o off => rfl
  | _ => simp only [D.hs] at h; simp only [D.lx, D.lc, h, Bool.true_or]
theorem VRep.hc {F F' : Frz} {w w' : World} {β : Bet} {d : D RT den} {v : Value} (h : VRep E F w β d v) (hd : d.hc = true) : VRep E F' w' β d v := by
  cases h with
  | os o len cap b m hb hc hl => exact .os o len cap b m hb hc hl
  | os0 o a' k3 => exact .os0 o a' k3
  | emp z τ a' k1 k2 k3 => exact .emp z τ a' k1 k2 k3
  | int k n => exact .int k n
  | bool b => exact .bool b
  | str b => exact .str b
  | _ => simp [D.hc, D.sc] at hd
theorem VRep.hs {F F' : Frz} {w w' : World} {β : Bet} {d : D RT den} {v : Value} (h : VRep E F w β d v) (hd : d.hs = true) : VRep E F' w' β d v := by
  cases h with
  | agg cs vs h1 h2 =>
    simp only [D.hs, List.all_eq_true] at hd
    exact .agg _ vs h1 (fun j c hc => (h2 j c hc).hc (hd c (List.mem_of_getElem? hc)))
  | os o len cap b m hb hc hl => exact .os o len cap b m hb hc hl
  | os0 o a' k3 => exact .os0 o a' k3
  | emp z τ a' k1 k2 k3 => exact .emp z τ a' k1 k2 k3
  | int k n => exact .int k n
  | bool b => exact .bool b
  | str b => exact .str b
  | _ => simp [D.hs, D.hc, D.sc] at hd
theorem posOf_get : ∀ {l : List Nat} {o : Nat}, o ∈ l → l[posOf l o]? = some o
  | [], o, h => by simp at h
  | x :: l, o, h => by
    simp only [posOf]
    by_cases hx : x = o
    · subst hx; simp
    · have : (x == o) = false := by simpa using hx
      rw [this]
      simp only [cond_false, List.getElem?_cons_succ]
      exact posOf_get (by simpa [Ne.symm hx] using h)
theorem nodups_inj : ∀ {l : List Nat}, nodups l = true → ∀ {i j o : Nat}, l[i]? = some o → l[j]? = some o → i = j
  | [], _, i, j, o, hi, _ => by simp at hi
  | x :: l, h, i, j, o, hi, hj => by
    simp only [nodups, Bool.and_eq_true, Bool.not_eq_true', List.elem_eq_mem, decide_eq_false_iff_not] at h
    cases i with
    | zero =>
      cases j with
      | zero => rfl
      | succ j =>
        simp only [List.getElem?_cons_zero, Option.some.injEq, List.getElem?_cons_succ] at hi hj
        subst hi
        exact absurd (List.mem_of_getElem? hj) h.1
    | succ i =>
      cases j with
      | zero =>
        simp only [List.getElem?_cons_zero, Option.some.injEq, List.getElem?_cons_succ] at hi hj
        subst hj
        exact absurd (List.mem_of_getElem? hi) h.1
      | succ j =>
        simp only [List.getElem?_cons_succ] at hi hj
        rw [nodups_inj h.2 hi hj]
theorem lents_get {σ : Nat → Nat} {os : List (Ob RT den)} : ∀ {ids : List Nat} {ins : List (Ob RT den)}, lents σ os ids = some ins → ins.length = ids.length ∧ ∀ (k o : Nat), ids[k]? = some o →
    (∃ l τ n f, os[o]? = some (.row l τ n f) ∧ ins[k]? = some (.row true τ n f)) ∨ (∃ l cs, os[o]? = some (.box l cs) ∧ cs.all D.lc = true ∧ ins[k]? = some (.box true (cs.map (D.ren1 σ))))
  | [], ins, h => by simp only [lents, Option.some.injEq] at h; subst h; simp
  | o :: ids, ins, h => by
    simp only [lents] at h
    split at h
    · rename_i l τ n f ho
      simp only [Option.bind_eq_some_iff] at h
      obtain ⟨x, hx, h⟩ := h
      have h := Option.some.inj h; subst h
      obtain ⟨h1, h2⟩ := lents_get hx
      refine ⟨by simp [h1], fun k o' hk => ?_⟩
      cases k with
      | zero =>
        simp only [List.getElem?_cons_zero, Option.some.injEq] at hk
        subst hk
        exact .inl ⟨l, τ, n, f, obj_some ho (by simp), rfl⟩
      | succ k => simpa using h2 k o' (by simpa using hk)
    · rename_i l cs ho
      cases hc : cs.all D.lc with
      | false => rw [hc] at h; cases h
      | true =>
      rw [hc] at h
      simp only [cond_true, Option.bind_eq_some_iff] at h
      obtain ⟨x, hx, h⟩ := h
      have h := Option.some.inj h; subst h
      obtain ⟨h1, h2⟩ := lents_get hx
      refine ⟨by simp [h1], fun k o' hk => ?_⟩
      cases k with
      | zero =>
        simp only [List.getElem?_cons_zero, Option.some.injEq] at hk
        subst hk
        exact .inr ⟨l, cs, obj_some ho (by simp), hc, rfl⟩
      | succ k => simpa using h2 k o' (by simpa using hk)
    · cases h
theorem backs_get {σ : Nat → Nat} : ∀ {ids : List Nat} {os xs os' : List (Ob RT den)}, nodups ids = true → backs σ os ids xs = some os' → os'.length = os.length ∧ xs.length = ids.length ∧ (∀ o, o ∉ ids → os'[o]? = os[o]?) ∧
    ∀ (k o : Nat), ids[k]? = some o → (∃ l b τ n f τ0 n0 f0, xs[k]? = some (.row l τ n f) ∧ os'[o]? = some (.row b τ n f) ∧ os[o]? = some (.row b τ0 n0 f0)) ∨
      (∃ l b cs cs0, xs[k]? = some (.box l cs) ∧ cs.all D.lc = true ∧ os'[o]? = some (.box b (cs.map (D.ren1 σ))) ∧ os[o]? = some (.box b cs0))
  | [], os, [], os', hn, h => by simp only [backs, Option.some.injEq] at h; subst h; simp
  | [], os, _ :: _, os', hn, h => by simp [backs] at h
  | _ :: _, os, [], os', hn, h => by simp [backs] at h
  | o :: ids, os, x :: xs, os', hn, h => by
    simp only [nodups, Bool.and_eq_true, Bool.not_eq_true', List.elem_eq_mem, decide_eq_false_iff_not] at hn
    have key : ∀ (y z : Ob RT den), os[o]? = some y → backs σ (os.set o z) ids xs = some os' → ((∃ l b τ n f τ0 n0 f0, x = .row l τ n f ∧ z = .row b τ n f ∧ y = .row b τ0 n0 f0) ∨ (∃ l b cs cs0, x = .box l cs ∧ cs.all D.lc = true ∧ z = .box b (cs.map (D.ren1 σ)) ∧ y = .box b cs0)) →
        os'.length = os.length ∧ (x :: xs).length = (o :: ids).length ∧ (∀ o', o' ∉ o :: ids → os'[o']? = os[o']?) ∧
        ∀ (k o' : Nat), (o :: ids)[k]? = some o' → (∃ l b τ n f τ0 n0 f0, (x :: xs)[k]? = some (.row l τ n f) ∧ os'[o']? = some (.row b τ n f) ∧ os[o']? = some (.row b τ0 n0 f0)) ∨
          (∃ l b cs cs0, (x :: xs)[k]? = some (.box l cs) ∧ cs.all D.lc = true ∧ os'[o']? = some (.box b (cs.map (D.ren1 σ))) ∧ os[o']? = some (.box b cs0)) := by
      intro y z hos h hxyz
      have hlt := (List.getElem?_eq_some_iff.1 hos).1
      obtain ⟨h1, h2, h3, h4⟩ := backs_get hn.2 h
      refine ⟨by simpa using h1, by simp [h2], fun o' ho' => ?_, fun k o' hk => ?_⟩
      · simp only [List.mem_cons, not_or] at ho'
        rw [h3 o' ho'.2, List.getElem?_set_ne (Ne.symm ho'.1)]
      · cases k with
        | zero =>
          simp only [List.getElem?_cons_zero, Option.some.injEq] at hk
          subst hk
          have ez : os'[o]? = some z := by rw [h3 o hn.1]; simp [hlt]
          rcases hxyz with ⟨l, b, τ, n, f, τ0, n0, f0, e1, e2, e3⟩ | ⟨l, b, cs, cs0, e1, e0, e2, e3⟩
          · exact .inl ⟨l, b, τ, n, f, τ0, n0, f0, by rw [e1]; rfl, by rw [ez, e2], by rw [hos, e3]⟩
          · exact .inr ⟨l, b, cs, cs0, by rw [e1]; rfl, e0, by rw [ez, e2], by rw [hos, e3]⟩
        | succ k =>
          simp only [List.getElem?_cons_succ] at hk ⊢
          have hne : o ≠ o' := fun e => by subst e; exact hn.1 (List.mem_of_getElem? hk)
          have := h4 k o' hk
          rw [List.getElem?_set_ne hne] at this
          exact this
    simp only [backs] at h
    split at h
    · rename_i b τ0 n0 f0 l τ n f ho
      exact key _ _ (obj_some ho (by simp)) h (.inl ⟨l, b, τ, n, f, τ0, n0, f0, rfl, rfl, rfl⟩)
    · rename_i b cs0 l cs ho
      cases hc : cs.all D.lc with
      | false => rw [hc] at h; cases h
      | true =>
        rw [hc] at h
        exact key _ _ (obj_some ho (by simp)) h (.inr ⟨l, b, cs, cs0, rfl, hc, rfl, rfl⟩)
    · cases h
def Bet.home (β : Bet) (n p : Nat) (βc : Bet) : Bet := ⟨fun o => if o < n then β o else βc (o - n + p), β.h⟩
theorem Bet.home_r (β : Bet) (n p : Nat) (βc : Bet) (o : Nat) : (β.home n p βc) o = if o < n then β o else βc (o - n + p) := rfl
theorem ORep.ren {F : Frz} {w : World} {β β' : Bet} {σ : Nat → Nat} {b : Nat} {m : Nat × Nat} {ob : Ob RT den} (h : ORep E F w β b m ob) (hc : ∀ l cs, ob = .box l cs → cs.all D.lc = true) (hσ : ∀ o x, β o = some x → β' (σ o) = some x) : ORep E F w β' b m (ob.ren σ) := by
  cases ob with
  | box l cs =>
    obtain ⟨cur, e, hh, hs, hr⟩ := h
    refine ⟨cur, e, hh, by simpa using hs, fun j c hcj => ?_⟩
    rw [List.getElem?_map] at hcj
    cases hq : cs[j]? with
    | none => rw [hq] at hcj; cases hcj
    | some c0 =>
      rw [hq] at hcj
      simp only [Option.map_some, Option.some.injEq] at hcj
      subst hcj
      have := hc l cs rfl
      rw [List.all_eq_true] at this
      exact (hr j c0 hq).ren1 (D.lc_lr (this c0 (List.mem_of_getElem? hq))) (fun o _ x hx => hσ o x hx)
  | row l τ n f => exact h
  | deep => trivial
  | gone => trivial
theorem Rel.back {F0 : Was} {w0 : World} {F F' : Frz} {β βc : Bet} {s : St RT den} {a : Act} {w w' : World} (h : Rel E F0 w0 F β s a w) {ids : List Nat} (hnd : nodups ids = true) (hb : Keep (fun b => ∃ (k : Nat) (m : Nat × Nat), (ids[k]?).bind β = some (b, m)) w.heap.size w w')
    (h1 : ∀ b o, F b o → F' b o) (h2 : ∀ b o, F' b o → F b o ∨ w.heap.size ≤ b) (h3 : ∀ b o, F' b o → b < w'.heap.size) {outs os' : List (Ob RT den)} (hlen : ids.length ≤ outs.length)
    (hos : backs (homeOf ids s.objs.length) s.objs ids (outs.take ids.length) = some os') (hokn : (outs.drop ids.length).all Ob.okN = true)
    (hobj : ∀ o ob, outs[o]? = some ob → ∀ b m, βc o = some (b, m) → ORep E F' w' βc b m ob) (hkeep : ∀ k, k < ids.length → βc k = (ids[k]?).bind β)
    (hnames : ∀ o b m, βc o = some (b, m) → b < w'.heap.size ∧ (∀ off, ¬ F' b off) ∧ o < outs.length ∧ (w.heap.size ≤ b ∨ ∃ m', (ids[o]?).bind β = some (b, m')))
    (hinj : ∀ o o' b m m', βc o = some (b, m) → βc o' = some (b, m') → o = o') :
    Rel E F0 w0 F' (β.home s.objs.length ids.length βc) { s with objs := os' ++ (outs.drop ids.length).map (Ob.ren (homeOf ids s.objs.length)) } a w' ∧ (∀ k x, βc k = some x → β.home s.objs.length ids.length βc (homeOf ids s.objs.length k) = some x) ∧ os'.length = s.objs.length ∧ (∀ o, o ∉ ids → os'[o]? = s.objs[o]?) := by
  obtain ⟨ba1, ba2, ba3, ba4⟩ := backs_get hnd hos
  have hk : Keeps F w w' := fun b o u hf hc => by
    have hbl : w'.heap[b]? = w.heap[b]? := hb.block b (h.frz b o hf) (fun ⟨k, m, hlb⟩ => by
      simp only [Option.bind_eq_some_iff] at hlb
      obtain ⟨o', _, hb'⟩ := hlb
      exact (h.names o' b m hb').2.2.1 o hf)
    unfold World.cell? at hc ⊢
    simp only [at'] at hc ⊢
    rw [hbl]; exact hc
  have hle : β.le (β.home s.objs.length ids.length βc) := ⟨fun o x hx => by
    rw [Bet.home_r]
    rw [if_pos (h.names o x.1 x.2 hx).2.2.2]; exact hx, fun _ _ _ h => h⟩
  have hhome : ∀ k x, βc k = some x → β.home s.objs.length ids.length βc (homeOf ids s.objs.length k) = some x := by
    intro k x hx
    by_cases hkp : k < ids.length
    · have hq := hkeep k hkp
      rw [hx] at hq
      have hq := hq.symm
      simp only [Option.bind_eq_some_iff] at hq
      obtain ⟨o, ho, hbo⟩ := hq
      have e : homeOf ids s.objs.length k = o := by
        unfold homeOf
        rw [decide_eq_true hkp]
        simp [List.getD_eq_getElem?_getD, ho]
      rw [e]
      exact hle.1 o x hbo
    · unfold homeOf
      rw [decide_eq_false hkp]
      simp only [cond_false]
      rw [Bet.home_r]
      rw [if_neg (by omega), show s.objs.length + (k - ids.length) - s.objs.length + ids.length = k by omega]
      exact hx
  have hnew : ∀ o b m, ids.length ≤ o → βc o = some (b, m) → w.heap.size ≤ b := fun o b m ho hx => by
    rcases (hnames o b m hx).2.2.2 with h9 | ⟨m', h9⟩
    · exact h9
    · rw [List.getElem?_eq_none ho] at h9; cases h9
  refine ⟨⟨h.defers, h.size, fun i d hd => (h.slots i d hd).mono h1 hk hle, fun o ob ho b m hβ => ?_, fun o b m hβ => ?_, fun o o' b m m' hβ hβ' => ?_, h.below.trans ⟨hb.os, hb.tape, hb.output, hb.size, fun k hk0 hno => hb.block k (Nat.lt_of_lt_of_le hk0 h.below.size) (fun hlk => ?_)⟩, h3, fun b o hf => h1 b o (h.frz1 b o hf), fun b o hf => (h2 b o hf).elim (h.frz2 b o) (fun hge => .inr (.inl (Nat.le_trans h.below.size hge))), fun o ho => ?_, h.placeH, ?_⟩, hhome, ba1, ba3⟩
  rotate_right
  · have nodg : ∀ (k o : Nat), ids[k]? = some o → ∀ ob, s.objs[o]? = some ob → ob.dg = false := fun k o hk ob ho => by
      rcases ba4 k o hk with ⟨l, b', τ, n, g, τ0, n0, g0, e1, e2, e3⟩ | ⟨l, b', cs, cs0, e1, e0, e2, e3⟩ <;> (rw [e3] at ho; cases ho; rfl)
    have hun : ∀ b, b < w.heap.size → (∀ (k o : Nat) m, ids[k]? = some o → β o ≠ some (b, m)) → w'.heap[b]? = w.heap[b]? := fun b hlt hno => hb.block b hlt (fun ⟨k, m, hlk⟩ => by
      simp only [Option.bind_eq_some_iff] at hlk
      obtain ⟨o, ho, hbo⟩ := hlk
      exact hno k o m ho hbo)
    refine h.hid.step (fun _ h => h) h1 (fun b o hf => (h2 b o hf).elim .inl (fun hge => .inr (h.hid.off_new hge))) hk hb.size rfl (fun o b m hβ => ?_) (fun o ob ho hd => ?_) (fun o l τ n p f ho b m hβ => ?_) (fun o q b m hq => hun b (h.hid.names o q b m hq).1 (fun k o' m' hk hbo => ?_)) (by simp; omega) (fun o y l τ n p f _ hy => ⟨y, hle.1 o y hy⟩)
    · rw [Bet.home_r] at hβ
      split at hβ
      · exact .inl ⟨m, hβ⟩
      · exact .inr (h.hid.off_new (hnew _ b m (by omega) hβ))
    · have hlt := (List.getElem?_eq_some_iff.1 ho).1
      show (os' ++ (outs.drop ids.length).map (Ob.ren (homeOf ids s.objs.length)))[o]? = _
      rw [List.getElem?_append_left (by omega), ba3 o (fun hi => by
        obtain ⟨k, hk⟩ := List.mem_iff_getElem?.1 hi
        rw [nodg k o hk ob ho] at hd; cases hd)]
      exact ho
    · have ho : (os' ++ (outs.drop ids.length).map (Ob.ren (homeOf ids s.objs.length)))[o]? = some (.deep l τ n p f) := ho
      by_cases hlt : o < s.objs.length
      · rw [List.getElem?_append_left (by omega)] at ho
        rw [Bet.home_r, if_pos hlt] at hβ
        have hni : o ∉ ids := fun hi => by
          obtain ⟨k, hk⟩ := List.mem_iff_getElem?.1 hi
          rcases ba4 k o hk with ⟨l', b', τ', n', g, τ0, n0, g0, e1, e2, e3⟩ | ⟨l', b', cs, cs0, e1, e0, e2, e3⟩ <;> (rw [e2] at ho; cases ho)
        rw [ba3 o hni] at ho
        exact ⟨ho, hβ, hun b (h.names o b m hβ).2.1 (fun k o' m' hk hbo => hni (by
          have := h.inj o o' b m m' hβ hbo
          subst this
          exact List.mem_of_getElem? hk))⟩
      · exfalso
        rw [List.getElem?_append_right (by omega), ba1, List.getElem?_map] at ho
        cases hq : (outs.drop ids.length)[o - s.objs.length]? with
        | none => rw [hq] at ho; cases ho
        | some ob0 =>
          rw [hq] at ho
          have ho := Option.some.inj ho
          rw [List.all_eq_true] at hokn
          have hok := hokn ob0 (List.mem_of_getElem? hq)
          cases ob0 <;> first | (simp [Ob.okN] at hok; done) | (cases ho; done)
    · have := h.hid.real o q b m o' m' hq hbo
      have := nodg k o' hk _ this
      cases this
  · replace ho : (os' ++ (outs.drop ids.length).map (Ob.ren (homeOf ids s.objs.length)))[o]? = some ob := ho
    by_cases hlt : o < s.objs.length
    · rw [List.getElem?_append_left (by omega)] at ho
      rw [Bet.home_r] at hβ
      rw [if_pos hlt] at hβ
      by_cases hi : o ∈ ids
      · obtain ⟨k, hk⟩ := List.mem_iff_getElem?.1 hi
        have hkp := (List.getElem?_eq_some_iff.1 hk).1
        have hbk : βc k = some (b, m) := by rw [hkeep k hkp, hk]; exact hβ
        rcases ba4 k o hk with ⟨l, b', τ, n, g, τ0, n0, g0, e1, e2, e3⟩ | ⟨l, b', cs, cs0, e1, e0, e2, e3⟩
        · rw [e2] at ho
          cases ho
          rw [List.getElem?_take, if_pos hkp] at e1
          exact hobj k _ e1 b m hbk
        · rw [e2] at ho
          cases ho
          rw [List.getElem?_take, if_pos hkp] at e1
          exact (hobj k _ e1 b m hbk).ren (fun l' cs' e => by cases e; exact e0) hhome
      · rw [ba3 o hi] at ho
        refine (h.objs o ob ho b m hβ).mono h1 hk (hb.block b (h.names o b m hβ).2.1 (fun ⟨k, m', hlb⟩ => ?_)) hle
        simp only [Option.bind_eq_some_iff] at hlb
        obtain ⟨o', hi', hb'⟩ := hlb
        have := h.inj o o' b m m' hβ hb'
        subst this
        exact hi (List.mem_of_getElem? hi')
    · rw [List.getElem?_append_right (by omega), ba1, List.getElem?_map] at ho
      rw [Bet.home_r] at hβ
      rw [if_neg hlt] at hβ
      cases hq : (outs.drop ids.length)[o - s.objs.length]? with
      | none => rw [hq] at ho; cases ho
      | some ob0 =>
        rw [hq] at ho
        have ho := Option.some.inj ho; subst ho
        rw [List.all_eq_true] at hokn
        have hok := hokn ob0 (List.mem_of_getElem? hq)
        rw [List.getElem?_drop, Nat.add_comm] at hq
        refine (hobj _ ob0 hq b m hβ).ren (fun l cs e => ?_) hhome
        subst e
        cases l with
        | true => cases hok
        | false => exact hok
  · rw [Bet.home_r] at hβ
    by_cases hlt : o < s.objs.length
    · rw [if_pos hlt] at hβ
      obtain ⟨n1, n2, n3, n4⟩ := h.names o b m hβ
      exact ⟨n1, Nat.lt_of_lt_of_le n2 hb.size, fun off hf => (h2 b off hf).elim (n3 off) (by omega), by simp; omega⟩
    · rw [if_neg hlt] at hβ
      obtain ⟨n1, n2, n3, n4⟩ := hnames _ b m hβ
      have := hnew _ b m (by omega) hβ
      exact ⟨.inl (Nat.le_trans h.below.size this), n1, n2, by simp; omega⟩
  · rw [Bet.home_r] at hβ hβ'
    by_cases e1 : o < s.objs.length <;> by_cases e2 : o' < s.objs.length
    · rw [if_pos e1] at hβ; rw [if_pos e2] at hβ'
      exact h.inj o o' b m m' hβ hβ'
    · rw [if_pos e1] at hβ; rw [if_neg e2] at hβ'
      have := hnew _ b m' (by omega) hβ'
      have := (h.names o b m hβ).2.1
      omega
    · rw [if_neg e1] at hβ; rw [if_pos e2] at hβ'
      have := hnew _ b m (by omega) hβ
      have := (h.names o' b m' hβ').2.1
      omega
    · rw [if_neg e1] at hβ; rw [if_neg e2] at hβ'
      have := hinj _ _ b m m' hβ hβ'
      omega
  · obtain ⟨k', m, hlk⟩ := hlk
    simp only [Option.bind_eq_some_iff] at hlk
    obtain ⟨o, _, hb'⟩ := hlk
    rcases (h.names o k m hb').1 with h9 | h9
    · omega
    · exact hno h9
  · obtain ⟨p1, ob, p2, p3⟩ := h.place o ho
    have hlt := (List.getElem?_eq_some_iff.1 p2).1
    refine ⟨by rw [Bet.home_r]; rw [if_pos hlt]; exact p1, ?_⟩
    show ∃ ob', (os' ++ (outs.drop ids.length).map (Ob.ren (homeOf ids s.objs.length)))[o]? = some ob' ∧ ob'.isLent = true
    rw [List.getElem?_append_left (by omega)]
    by_cases hi : o ∈ ids
    · obtain ⟨k, hk⟩ := List.mem_iff_getElem?.1 hi
      rcases ba4 k o hk with ⟨l, b', τ, n, g, τ0, n0, g0, e1, e2, e3⟩ | ⟨l, b', cs, cs0, e1, e0, e2, e3⟩ <;> (rw [p2] at e3; cases e3; exact ⟨_, e2, p3⟩)
    · exact ⟨ob, by rw [ba3 o hi]; exact p2, p3⟩
def Bet.join (β : Bet) (n : Nat) (β' : Bet) : Bet := ⟨fun o => if o < n then β o else β' (o - n), β.h⟩
theorem Bet.join_r (β : Bet) (n : Nat) (β' : Bet) (o : Nat) : (β.join n β') o = if o < n then β o else β' (o - n) := rfl
theorem Rel.join (hE : Ok E P) {F0 : Was} {w0 : World} {F F' : Frz} {β βc : Bet} {s : St RT den} {a : Act} {w : World} {outs : List (Ob RT den)} (h : Rel E F0 w0 F β s a w) (hflat : outs.all (Ob.flat E) = true)
    (hobj : ∀ o ob, outs[o]? = some ob → ∀ b m, βc o = some (b, m) → ORep E F' w βc b m ob) (hnames : ∀ o b m, βc o = some (b, m) → b < w.heap.size ∧ (∀ off, ¬ F b off) ∧ o < outs.length ∧ w0.heap.size ≤ b ∧ ∀ i m', β i ≠ some (b, m'))
    (hoff : ∀ o b m, βc o = some (b, m) → β.off b) (hinj : ∀ o o' b m m', βc o = some (b, m) → βc o' = some (b, m') → o = o') : Rel E F0 w0 F (β.join s.objs.length βc) { s with objs := s.objs ++ outs } a w := by
  have hle : β.le (β.join s.objs.length βc) := ⟨fun o x hx => by
    rw [Bet.join_r]
    rw [if_pos (h.names o x.1 x.2 hx).2.2.2]; exact hx, fun _ _ _ h => h⟩
  refine ⟨h.defers, h.size, fun i d hd => (h.slots i d hd).mono (fun _ _ h => h) (Keeps.refl _ _) hle, fun o ob ho b m hb => ?_, fun o b m hb => ?_, fun o o' b m m' hb hb' => ?_, h.below, h.frz, h.frz1, h.frz2, fun o ho => ?_, h.placeH, ?_⟩
  rotate_right
  · refine h.hid.step (fun _ h => h) (fun _ _ h => h) (fun _ _ h => .inl h) (Keeps.refl _ _) (Nat.le_refl _) rfl (fun o b m hb => ?_) (fun o ob ho _ => ?_) (fun o l τ n p f ho b m hb => ?_) (fun _ _ _ _ _ => rfl) (by simp) (fun o y l τ n p f _ hy => ⟨y, hle.1 o y hy⟩)
    · rw [Bet.join_r] at hb
      split at hb
      · exact .inl ⟨m, hb⟩
      · exact .inr (hoff _ b m hb)
    · show (s.objs ++ outs)[o]? = _
      rw [List.getElem?_append_left (List.getElem?_eq_some_iff.1 ho).1]; exact ho
    · have ho : (s.objs ++ outs)[o]? = some (.deep l τ n p f) := ho
      by_cases hlt : o < s.objs.length
      · rw [List.getElem?_append_left hlt] at ho
        rw [Bet.join_r, if_pos hlt] at hb
        exact ⟨ho, hb, rfl⟩
      · exfalso
        rw [List.getElem?_append_right (by omega)] at ho
        rw [List.all_eq_true] at hflat
        have := hflat _ (List.mem_of_getElem? ho)
        cases this
  · rw [Bet.join_r] at hb
    by_cases hlt : o < s.objs.length
    · rw [if_pos hlt] at hb
      rw [show ({ s with objs := s.objs ++ outs } : St RT den).objs = s.objs ++ outs from rfl, List.getElem?_append_left hlt] at ho
      exact (h.objs o ob ho b m hb).mono (fun _ _ h => h) (Keeps.refl _ _) rfl hle
    · rw [if_neg hlt] at hb
      rw [show ({ s with objs := s.objs ++ outs } : St RT den).objs = s.objs ++ outs from rfl, List.getElem?_append_right (by omega)] at ho
      have hf := hflat
      rw [List.all_eq_true] at hf
      have hq := hf ob (List.mem_of_getElem? ho)
      cases ob with
      | box cs => simp [Ob.flat] at hq
      | deep => simp [Ob.flat] at hq
      | gone => simp [Ob.flat] at hq
      | row l τ n f =>
        cases l with
        | true => simp [Ob.flat] at hq
        | false =>
          obtain ⟨hm, hm1, cur, e, hh, hs, hr⟩ := hobj _ _ ho b m hb
          have hsc := hE.scl τ hq
          refine ⟨hm, hm1, cur, e, hh, hs, fun i j c hi hc => (hr i j c hi hc).sce ?_⟩
          have := hsc (f i)
          rw [List.all_eq_true] at this
          exact this c (List.mem_of_getElem? hc)
  · rw [Bet.join_r] at hb
    by_cases hlt : o < s.objs.length
    · rw [if_pos hlt] at hb
      obtain ⟨n1, n2, n3, n4⟩ := h.names o b m hb
      exact ⟨n1, n2, n3, by simp; omega⟩
    · rw [if_neg hlt] at hb
      obtain ⟨n1, n2, n3, n4, n5⟩ := hnames _ b m hb
      exact ⟨.inl n4, n1, n2, by simp; omega⟩
  · rw [Bet.join_r] at hb hb'
    by_cases h1 : o < s.objs.length <;> by_cases h2 : o' < s.objs.length
    · rw [if_pos h1] at hb; rw [if_pos h2] at hb'
      exact h.inj o o' b m m' hb hb'
    · rw [if_pos h1] at hb; rw [if_neg h2] at hb'
      exact absurd hb ((hnames _ b m' hb').2.2.2.2 o m)
    · rw [if_neg h1] at hb; rw [if_pos h2] at hb'
      exact absurd hb' ((hnames _ b m hb).2.2.2.2 o' m')
    · rw [if_neg h1] at hb; rw [if_neg h2] at hb'
      have := hinj _ _ b m m' hb hb'
      omega
  · obtain ⟨h4, ob, h5, h6⟩ := h.place o ho
    have hlt := (List.getElem?_eq_some_iff.1 h5).1
    exact ⟨by rw [Bet.join_r]; rw [if_pos hlt]; exact h4, ob, by show (s.objs ++ outs)[o]? = _; rw [List.getElem?_append_left hlt]; exact h5, h6⟩
theorem Hid.off_of {ok : Nat → Prop} {F : Frz} {β : Bet} {os : List (Ob RT den)} {w : World} (h : Hid E ok F β os w) {b : Nat} (hb : ∀ i q m, β.h i q = some (b, m) → False) : β.off b := fun i q m hi => hb i q m hi
def InsD (E : Env RT den) (os : List (Ob RT den)) (l : List Src) (ins : List (Ob RT den)) : Prop := ins.length = l.length ∧
    (∀ (k o : Nat), l[k]? = some (o, none) → (∃ b τ n f, os[o]? = some (.row b τ n f) ∧ ins[k]? = some (.row true τ n f)) ∨ ∃ b τ n p f, os[o]? = some (.deep b τ n p f) ∧ ins[k]? = some (.deep true τ n p f)) ∧
    (∀ (k o i j : Nat), l[k]? = some (o, some (i, j)) → ∃ b τ n p f z τ' n' f', os[o]? = some (.deep b τ n p f) ∧ i < p ∧ (E.cells τ (f i))[j]? = some (.rs z τ' n' f') ∧ ((E.scl τ' = true ∧ ins[k]? = some (.row true τ' n' f')) ∨ (E.scl τ' = false ∧ ins[k]? = some (.deep true τ' n' n' f'))))
theorem insD_get {os : List (Ob RT den)} : ∀ {l : List Src} {ins : List (Ob RT den)}, insD E os l = some (true, ins) → InsD E os l ins
  | [], ins, h => by simp only [insD, Option.some.injEq, Prod.mk.injEq, true_and] at h; subst h; simp [InsD]
  | (o, none) :: l, ins, h => by
    simp only [insD] at h
    split at h
    · rename_i b τ n f hob
      simp only [Option.bind_eq_some_iff, Option.some.injEq, Prod.mk.injEq] at h
      obtain ⟨⟨c, r⟩, hr, rfl, rfl⟩ := h
      obtain ⟨h1, h2, h3⟩ := insD_get hr
      refine ⟨by simp [h1], fun k o' hk => ?_, fun k o' i j hk => ?_⟩
      · cases k with
        | zero => simp only [List.getElem?_cons_zero, Option.some.injEq, Prod.mk.injEq, and_true] at hk; subst hk; exact .inl ⟨b, τ, n, f, obj_some hob (by simp), rfl⟩
        | succ k => simpa using h2 k o' (by simpa using hk)
      · cases k with
        | zero => simp at hk
        | succ k => simpa using h3 k o' i j (by simpa using hk)
    · rename_i b τ n p f hob
      simp only [Option.bind_eq_some_iff, Option.some.injEq, Prod.mk.injEq] at h
      obtain ⟨⟨c, r⟩, hr, rfl, rfl⟩ := h
      obtain ⟨h1, h2, h3⟩ := insD_get hr
      refine ⟨by simp [h1], fun k o' hk => ?_, fun k o' i j hk => ?_⟩
      · cases k with
        | zero => simp only [List.getElem?_cons_zero, Option.some.injEq, Prod.mk.injEq, and_true] at hk; subst hk; exact .inr ⟨b, τ, n, p, f, obj_some hob (by simp), rfl⟩
        | succ k => simpa using h2 k o' (by simpa using hk)
      · cases k with
        | zero => simp at hk
        | succ k => simpa using h3 k o' i j (by simpa using hk)
    · cases h
  | (o, some (i, j)) :: l, ins, h => by
    simp only [insD] at h
    split at h
    · rename_i b τ n p f hob
      split at h
      · rename_i z τ' n' f' hc
        have fin : ∀ (x : Ob RT den), ((insD E os l).bind fun r => some (decide (i < p) && r.1, x :: r.2)) = some (true, ins) → ((E.scl τ' = true ∧ x = .row true τ' n' f') ∨ (E.scl τ' = false ∧ x = .deep true τ' n' n' f')) → InsD E os ((o, some (i, j)) :: l) ins := by
          intro x h hx
          simp only [Option.bind_eq_some_iff, Option.some.injEq, Prod.mk.injEq, Bool.and_eq_true, decide_eq_true_eq] at h
          obtain ⟨⟨c, r⟩, hr, ⟨hip, rfl⟩, rfl⟩ := h
          obtain ⟨h1, h2, h3⟩ := insD_get hr
          refine ⟨by simp [h1], fun k o' hk => ?_, fun k o' i' j' hk => ?_⟩
          · cases k with
            | zero => simp at hk
            | succ k => simpa using h2 k o' (by simpa using hk)
          · cases k with
            | zero =>
              simp only [List.getElem?_cons_zero, Option.some.injEq, Prod.mk.injEq] at hk
              obtain ⟨rfl, rfl, rfl⟩ := hk
              refine ⟨b, τ, n, p, f, z, τ', n', f', obj_some hob (by simp), hip, hc, ?_⟩
              rcases hx with ⟨e1, e2⟩ | ⟨e1, e2⟩
              · exact .inl ⟨e1, by simp [e2]⟩
              · exact .inr ⟨e1, by simp [e2]⟩
            | succ k => simpa using h3 k o' i' j' (by simpa using hk)
        cases hs : E.scl τ' with
        | true => rw [hs] at h; exact fin _ h (.inl ⟨hs, rfl⟩)
        | false => rw [hs] at h; exact fin _ h (.inr ⟨hs, rfl⟩)
      · cases h
    · cases h
def BacksD (E : Env RT den) (os : List (Ob RT den)) (l : List Src) (xs os' : List (Ob RT den)) : Prop := os'.length = os.length ∧ xs.length = l.length ∧ (∀ o, o ∉ l.map Prod.fst → os'[o]? = os[o]?) ∧
    (∀ (k o : Nat), l[k]? = some (o, none) → (∃ b lb τ n f τ0 n0 f0, os[o]? = some (.row b τ0 n0 f0) ∧ xs[k]? = some (.row lb τ n f) ∧ os'[o]? = some (.row b τ n f)) ∨ ∃ b lb τ n p f τ0 n0 p0 f0, os[o]? = some (.deep b τ0 n0 p0 f0) ∧ xs[k]? = some (.deep lb τ n p f) ∧ os'[o]? = some (.deep b τ n p f)) ∧
    (∀ (k o i j : Nat), l[k]? = some (o, some (i, j)) → ∃ b τ n p f z τ0 n' f0 τ' g y, os[o]? = some (.deep b τ n p f) ∧ (E.cells τ (f i))[j]? = some (.rs z τ0 n' f0) ∧ E.cells τ y = (E.cells τ (f i)).set j (.rs none τ' n' g) ∧ os'[o]? = some (.deep b τ n p fun q => if q = i then y else f q) ∧ τ' = τ0 ∧
      ((E.scl τ' = true ∧ ∃ lb n1, xs[k]? = some (.row lb τ' n1 g)) ∨ (E.scl τ' = false ∧ ∃ lb n1 p1, n' ≤ p1 ∧ xs[k]? = some (.deep lb τ' n1 p1 g))))
theorem backsD_get (hE : Ok E P) : ∀ {l : List Src} {os xs os' : List (Ob RT den)}, nodups (l.map Prod.fst) = true → backsD E os l xs = some (true, os') → BacksD E os l xs os'
  | [], os, [], os', hn, h => by simp only [backsD, Option.some.injEq, Prod.mk.injEq, true_and] at h; subst h; simp [BacksD]
  | [], os, _ :: _, os', hn, h => by simp [backsD] at h
  | _ :: _, os, [], os', hn, h => by simp [backsD] at h
  | (o, sr) :: l, os, x :: xs, os', hn, h => by
    simp only [List.map_cons, nodups, Bool.and_eq_true, Bool.not_eq_true', List.elem_eq_mem, decide_eq_false_iff_not] at hn
    have key : ∀ (y z : Ob RT den), os[o]? = some y → backsD E (os.set o z) l xs = some (true, os') →
        (sr = none ∧ ((∃ b lb τ n f τ0 n0 f0, y = .row b τ0 n0 f0 ∧ x = .row lb τ n f ∧ z = .row b τ n f) ∨ ∃ b lb τ n p f τ0 n0 p0 f0, y = .deep b τ0 n0 p0 f0 ∧ x = .deep lb τ n p f ∧ z = .deep b τ n p f) ∨
         ∃ i j, sr = some (i, j) ∧ ∃ b τ n p f z0 τ0 n' f0 τ' g y0, y = .deep b τ n p f ∧ (E.cells τ (f i))[j]? = some (.rs z0 τ0 n' f0) ∧ E.cells τ y0 = (E.cells τ (f i)).set j (.rs none τ' n' g) ∧ z = .deep b τ n p (fun q => if q = i then y0 else f q) ∧ τ' = τ0 ∧
           ((E.scl τ' = true ∧ ∃ lb n1, x = .row lb τ' n1 g) ∨ (E.scl τ' = false ∧ ∃ lb n1 p1, n' ≤ p1 ∧ x = .deep lb τ' n1 p1 g))) → BacksD E os ((o, sr) :: l) (x :: xs) os' := by
      intro y z hos h hxyz
      have hlt := (List.getElem?_eq_some_iff.1 hos).1
      obtain ⟨h1, h2, h3, h4, h5⟩ := backsD_get hE hn.2 h
      have ez : os'[o]? = some z := by rw [h3 o hn.1]; simp [hlt]
      have ne : ∀ (k o' : Nat) w, l[k]? = some (o', w) → o ≠ o' := fun k o' w hk e => by
        subst e
        exact hn.1 (List.mem_map.2 ⟨_, List.mem_of_getElem? hk, rfl⟩)
      refine ⟨by simpa using h1, by simp [h2], fun o' ho' => ?_, fun k o' hk => ?_, fun k o' i j hk => ?_⟩
      · simp only [List.map_cons, List.mem_cons, not_or] at ho'
        rw [h3 o' ho'.2, List.getElem?_set_ne (Ne.symm ho'.1)]
      · cases k with
        | zero =>
          simp only [List.getElem?_cons_zero, Option.some.injEq, Prod.mk.injEq] at hk
          obtain ⟨rfl, rfl⟩ := hk
          rcases hxyz with ⟨_, ⟨b, lb, τ, n, f, τ0, n0, f0, e1, e2, e3⟩ | ⟨b, lb, τ, n, p, f, τ0, n0, p0, f0, e1, e2, e3⟩⟩ | ⟨i, j, e, _⟩
          · exact .inl ⟨b, lb, τ, n, f, τ0, n0, f0, by rw [hos, e1], by rw [e2]; rfl, by rw [ez, e3]⟩
          · exact .inr ⟨b, lb, τ, n, p, f, τ0, n0, p0, f0, by rw [hos, e1], by rw [e2]; rfl, by rw [ez, e3]⟩
          · cases e
        | succ k =>
          simp only [List.getElem?_cons_succ] at hk ⊢
          have := h4 k o' hk
          rw [List.getElem?_set_ne (ne k o' _ hk)] at this
          exact this
      · cases k with
        | zero =>
          simp only [List.getElem?_cons_zero, Option.some.injEq, Prod.mk.injEq] at hk
          obtain ⟨rfl, rfl⟩ := hk
          rcases hxyz with ⟨e, _⟩ | ⟨i', j', e, b, τ, n, p, f, z0, τ0, n', f0, τ', g, y0, e1, e2, e3, e4, e5⟩
          · cases e
          · cases e
            refine ⟨b, τ, n, p, f, z0, τ0, n', f0, τ', g, y0, by rw [hos, e1], e2, e3, by rw [ez, e4], ?_⟩
            simpa using e5
        | succ k =>
          simp only [List.getElem?_cons_succ] at hk ⊢
          have := h5 k o' i j hk
          rw [List.getElem?_set_ne (ne k o' _ hk)] at this
          exact this
    cases sr with
    | none =>
      simp only [backsD] at h
      split at h
      · rename_i b τ0 n0 f0 lb τ n f hob
        exact key _ _ (obj_some hob (by simp)) h (.inl ⟨rfl, .inl ⟨b, lb, τ, n, f, τ0, n0, f0, rfl, rfl, rfl⟩⟩)
      · rename_i b τ0 n0 p0 f0 lb τ n p f hob
        exact key _ _ (obj_some hob (by simp)) h (.inl ⟨rfl, .inr ⟨b, lb, τ, n, p, f, τ0, n0, p0, f0, rfl, rfl, rfl⟩⟩)
      · cases h
    | some ij =>
      obtain ⟨i, j⟩ := ij
      simp only [backsD] at h
      split at h
      · rename_i b τ n p f hob
        split at h
        · rename_i z0 τ0 n' f0 hc
          split at h
          · rename_i lb τ' n1 g
            split at h
            · cases h
            · rename_i heq _
              cases hs : E.scl τ' with
              | false => rw [hs] at h; cases h
              | true =>
                rw [hs] at h
                simp only [cond_true, Option.bind_eq_some_iff] at h
                obtain ⟨y0, hy, h⟩ := h
                exact key _ _ (obj_some hob (by simp)) h (.inr ⟨i, j, rfl, b, τ, n, p, f, z0, τ0, n', f0, τ', g, y0, rfl, hc, hE.dec τ _ _ hy, rfl, heq, .inl ⟨hs, lb, n1, rfl⟩⟩)
          · rename_i lb τ' n1 p1 g
            split at h
            · cases h
            · rename_i heq _
              cases hs : E.scl τ' with
              | true => rw [hs] at h; cases h
              | false =>
                rw [hs] at h
                simp only [cond_false, Option.bind_eq_some_iff, Option.some.injEq, Prod.mk.injEq, Bool.and_eq_true, decide_eq_true_eq] at h
                obtain ⟨y0, hy, ⟨c, os1⟩, hr, ⟨hn1, rfl⟩, rfl⟩ := h
                exact key _ _ (obj_some hob (by simp)) hr (.inr ⟨i, j, rfl, b, τ, n, p, f, z0, τ0, n', f0, τ', g, y0, rfl, hc, hE.dec τ _ _ hy, rfl, heq, .inr ⟨hs, lb, n1, p1, hn1, rfl⟩⟩)
          · cases h
        · cases h
      · cases h
theorem posL_get : ∀ (cs : List (D RT den)) (k j : Nat) (c' : D RT den), (posL cs k)[j]? = some c' → ∃ c, cs[j]? = some c ∧ c' = c.pos1 (k + ((cs.take j).flatMap D.src1).length)
  | [], k, j, c', h => by simp [posL] at h
  | c :: cs, k, j, c', h => by
    cases j with
    | zero => simp only [posL, List.getElem?_cons_zero, Option.some.injEq] at h; exact ⟨c, rfl, by simp [h]⟩
    | succ j =>
      simp only [posL, List.getElem?_cons_succ] at h
      obtain ⟨c0, h1, h2⟩ := posL_get cs _ j c' h
      exact ⟨c0, by simpa using h1, by rw [h2]; simp [Nat.add_assoc]⟩
theorem posL_len : ∀ (cs : List (D RT den)) (k : Nat), (posL cs k).length = cs.length
  | [], k => rfl
  | c :: cs, k => by simp [posL, posL_len cs]
theorem posA_get : ∀ (ds : List (D RT den)) (k j : Nat) (d' : D RT den), (posA ds k)[j]? = some d' → ∃ d, ds[j]? = some d ∧ d' = d.posd (k + ((ds.take j).flatMap D.srcs).length)
  | [], k, j, d', h => by simp [posA] at h
  | d :: ds, k, j, d', h => by
    cases j with
    | zero => simp only [posA, List.getElem?_cons_zero, Option.some.injEq] at h; exact ⟨d, rfl, by simp [h]⟩
    | succ j =>
      simp only [posA, List.getElem?_cons_succ] at h
      obtain ⟨d0, h1, h2⟩ := posA_get ds _ j d' h
      exact ⟨d0, by simpa using h1, by rw [h2]; simp [Nat.add_assoc]⟩
theorem posA_len : ∀ (ds : List (D RT den)) (k : Nat), (posA ds k).length = ds.length
  | [], k => rfl
  | d :: ds, k => by simp [posA, posA_len ds]
theorem flatMap_at {α γ : Type} (f : α → List γ) : ∀ (l : List α) (j : Nat) (a : α) (q : Nat) (c : γ), l[j]? = some a → (f a)[q]? = some c → (l.flatMap f)[((l.take j).flatMap f).length + q]? = some c
  | [], j, a, q, c, h, _ => by simp at h
  | x :: l, j, a, q, c, h, hq => by
    cases j with
    | zero =>
      simp only [List.getElem?_cons_zero, Option.some.injEq] at h; subst h
      simp only [List.take_zero, List.flatMap_nil, List.length_nil, Nat.zero_add, List.flatMap_cons]
      rw [List.getElem?_append_left (List.getElem?_eq_some_iff.1 hq).1]; exact hq
    | succ j =>
      simp only [List.getElem?_cons_succ] at h
      have := flatMap_at f l j a q c h hq
      simp only [List.take_succ_cons, List.flatMap_cons, List.length_append]
      rw [List.getElem?_append_right (by omega), show (f x).length + ((l.take j).flatMap f).length + q - (f x).length = ((l.take j).flatMap f).length + q by omega]
      exact this
theorem pos1_rep {F : Frz} {w : World} {β βc : Bet} {d : D RT den} {v : Value} (h : VRep E F w β d v) (hd : d.ld = true) {k : Nat} (h1 : ∀ o, d.src1 = [(o, none)] → βc k = β o) (h2 : ∀ o i j b m, d.src1 = [(o, some (i, j))] → β.h o [i, j] = some (b, m) → βc k = some (b, m)) : VRep E F w βc (d.pos1 k) v := by
  cases h with
  | os o len cap b m hb hc hl => exact .os k len cap b m (by rw [h1 o rfl]; exact hb) hc hl
  | os0 o a' k3 => exact .os0 k a' k3
  | osn o i j len cap b m hb hc hl => exact .os k len cap b m (h2 o i j b m rfl hb) hc hl
  | osn0 o i j a' k3 => exact .os0 k a' k3
  | int kd n => exact .int kd n
  | bool b => exact .bool b
  | str b => exact .str b
  | nil => exact .nil
  | emp z τ a' k1 k2 k3 => exact .emp z τ a' k1 k2 k3
  | rptr cs b o u k1 k2 => exact .rptr cs b o u k1 k2
  | rs z τ n f a cap b o u k1 k2 k3 k4 k5 k6 k7 k8 => exact .rs z τ n f a cap b o u k1 k2 k3 k4 k5 k6 k7 k8
  | fn f cap vs k1 k2 => exact VRep.pure (d := .fn f cap) hd (.fn f cap vs k1 k2)
  | _ => simp [D.ld, D.pure] at hd
def Bet.joinD (β : Bet) (n : Nat) (β' : Bet) : Bet := ⟨fun o => if o < n then β o else β' (o - n), fun o q => if o < n then β.h o q else β'.h (o - n) q⟩
theorem Bet.joinD_r (β : Bet) (n : Nat) (β' : Bet) (o : Nat) : (β.joinD n β') o = if o < n then β o else β' (o - n) := rfl
theorem Bet.joinD_h (β : Bet) (n : Nat) (β' : Bet) (o : Nat) (q : List Nat) : (β.joinD n β').h o q = if o < n then β.h o q else β'.h (o - n) q := rfl
theorem Rel.joinD (hE : Ok E P) {F0 : Was} {w0 : World} {F F' : Frz} {β βc : Bet} {s : St RT den} {a : Act} {w : World} {outs : List (Ob RT den)} {okc : Nat → Prop} (h : Rel E F0 w0 F β s a w) (hok : outs.all (Ob.okD E) = true) (hfull : ∀ (k : Nat) l τ n p g, outs[k]? = some (Ob.deep l τ n p g) → n ≤ p)
    (hobj : ∀ o ob, outs[o]? = some ob → ∀ b m, βc o = some (b, m) → ORep E F' w βc b m ob) (hid : Hid E okc F' βc outs w) (hnames : ∀ o b m, βc o = some (b, m) → b < w.heap.size ∧ o < outs.length)
    (hnew : ∀ b, βc.has b → w0.heap.size ≤ b ∧ (∀ off, ¬ F b off) ∧ ¬ β.has b) (hinj : ∀ o o' b m m', βc o = some (b, m) → βc o' = some (b, m') → o = o') : Rel E F0 w0 F (β.joinD s.objs.length βc) { s with objs := s.objs ++ outs } a w := by
  have hle : β.le (β.joinD s.objs.length βc) := ⟨fun o x hx => by
    rw [Bet.joinD_r, if_pos (h.names o x.1 x.2 hx).2.2.2]; exact hx, fun o q x hx => by
    rw [Bet.joinD_h, if_pos (h.hid.names o q x.1 x.2 hx).2.2]; exact hx⟩
  have hnogone : ∀ (o : Nat), outs[o]? ≠ some .gone := fun o ho => by
    rw [List.all_eq_true] at hok
    have := hok _ (List.mem_of_getElem? ho)
    simp [Ob.okD] at this
  have hl : ∀ (o : Nat), o < s.objs.length → (s.objs ++ outs)[o]? = s.objs[o]? := fun o ho => List.getElem?_append_left ho
  have hr : ∀ (o : Nat), ¬ o < s.objs.length → (s.objs ++ outs)[o]? = outs[o - s.objs.length]? := fun o ho => List.getElem?_append_right (by omega)
  refine ⟨h.defers, h.size, fun i d hd => (h.slots i d hd).mono (fun _ _ h => h) (Keeps.refl _ _) hle, fun o ob ho b m hb => ?_, fun o b m hb => ?_, fun o o' b m m' hb hb' => ?_, h.below, h.frz, h.frz1, h.frz2, fun o ho => ?_, fun o ho => ?_, ?_⟩
  · have ho : (s.objs ++ outs)[o]? = some ob := ho
    rw [Bet.joinD_r] at hb
    by_cases hlt : o < s.objs.length
    · rw [if_pos hlt] at hb
      rw [hl o hlt] at ho
      exact (h.objs o ob ho b m hb).mono (fun _ _ h => h) (Keeps.refl _ _) rfl hle
    · rw [if_neg hlt] at hb
      rw [hr o hlt] at ho
      rw [List.all_eq_true] at hok
      have hq := hok ob (List.mem_of_getElem? ho)
      cases ob with
      | box cs => simp [Ob.okD] at hq
      | gone => simp [Ob.okD] at hq
      | deep => trivial
      | row l τ n f =>
        cases l with
        | true => simp [Ob.okD] at hq
        | false =>
          obtain ⟨hm, hm1, cur, e, hh, hs, hr'⟩ := hobj _ _ ho b m hb
          have hsc := hE.scl τ hq
          refine ⟨hm, hm1, cur, e, hh, hs, fun i j c hi hc => (hr' i j c hi hc).sce ?_⟩
          have := hsc (f i)
          rw [List.all_eq_true] at this
          exact this c (List.mem_of_getElem? hc)
  · show _ ∧ _ ∧ _ ∧ o < (s.objs ++ outs).length
    rw [Bet.joinD_r] at hb
    by_cases hlt : o < s.objs.length
    · rw [if_pos hlt] at hb
      obtain ⟨n1, n2, n3, n4⟩ := h.names o b m hb
      exact ⟨n1, n2, n3, by simp; omega⟩
    · rw [if_neg hlt] at hb
      obtain ⟨n1, n2⟩ := hnames _ b m hb
      obtain ⟨n3, n4, n5⟩ := hnew b (.inl ⟨_, _, hb⟩)
      exact ⟨.inl n3, n1, n4, by simp; omega⟩
  · rw [Bet.joinD_r] at hb hb'
    by_cases h1 : o < s.objs.length <;> by_cases h2 : o' < s.objs.length
    · rw [if_pos h1] at hb; rw [if_pos h2] at hb'
      exact h.inj o o' b m m' hb hb'
    · rw [if_pos h1] at hb; rw [if_neg h2] at hb'
      exact absurd (.inl ⟨_, _, hb⟩) (hnew b (.inl ⟨_, _, hb'⟩)).2.2
    · rw [if_neg h1] at hb; rw [if_pos h2] at hb'
      exact absurd (.inl ⟨_, _, hb'⟩) (hnew b (.inl ⟨_, _, hb⟩)).2.2
    · rw [if_neg h1] at hb; rw [if_neg h2] at hb'
      have := hinj _ _ b m m' hb hb'
      omega
  · obtain ⟨h4, ob, h5, h6⟩ := h.place o ho
    have hlt := (List.getElem?_eq_some_iff.1 h5).1
    exact ⟨by rw [Bet.joinD_r, if_pos hlt]; exact h4, ob, by show (s.objs ++ outs)[o]? = _; rw [hl o hlt]; exact h5, h6⟩
  · obtain ⟨h4, ob, h5, h6⟩ := h.place o ho
    have hlt := (List.getElem?_eq_some_iff.1 h5).1
    rw [← h.placeH o ho]
    funext q
    rw [Bet.joinD_h, if_pos hlt]
  · refine ⟨fun o q b m hx => ?_, fun o q b m hx => ?_, fun o q b m o' m' hx hx' => ?_, fun o q o' q' b m m' hx hx' hg hg' => ?_, fun o q x hx => ?_, fun o l τ n p f ho b m hb => ?_⟩
    · rw [Bet.joinD_h] at hx
      split at hx
      · exact h.hid.ok _ _ _ _ hx
      · exact .inl (hnew b (.inr ⟨_, _, _, hx⟩)).1
    · rw [Bet.joinD_h] at hx
      split at hx
      · obtain ⟨n1, n2, n3⟩ := h.hid.names _ _ _ _ hx
        exact ⟨n1, n2, by simp; omega⟩
      · obtain ⟨n1, n2, n3⟩ := hid.names _ _ _ _ hx
        exact ⟨n1, (hnew b (.inr ⟨_, _, _, hx⟩)).2.1, by simp; omega⟩
    · show (s.objs ++ outs)[o']? = _
      rw [Bet.joinD_h] at hx
      rw [Bet.joinD_r] at hx'
      by_cases h1 : o < s.objs.length <;> by_cases h2 : o' < s.objs.length
      · rw [if_pos h1] at hx; rw [if_pos h2] at hx'
        rw [hl o' h2]
        exact h.hid.real _ _ _ _ _ _ hx hx'
      · rw [if_pos h1] at hx; rw [if_neg h2] at hx'
        exact absurd (.inr ⟨_, _, _, hx⟩) (hnew b (.inl ⟨_, _, hx'⟩)).2.2
      · rw [if_neg h1] at hx; rw [if_pos h2] at hx'
        exact absurd (.inl ⟨_, _, hx'⟩) (hnew b (.inr ⟨_, _, _, hx⟩)).2.2
      · rw [if_neg h1] at hx; rw [if_neg h2] at hx'
        exact absurd (hid.real _ _ _ _ _ _ hx hx') (hnogone _)
    · have hg : (s.objs ++ outs)[o]? ≠ some .gone := hg
      have hg' : (s.objs ++ outs)[o']? ≠ some .gone := hg'
      rw [Bet.joinD_h] at hx hx'
      by_cases h1 : o < s.objs.length <;> by_cases h2 : o' < s.objs.length
      · rw [if_pos h1] at hx; rw [if_pos h2] at hx'
        rw [hl o h1] at hg; rw [hl o' h2] at hg'
        exact h.hid.inj _ _ _ _ _ _ _ hx hx' hg hg'
      · rw [if_pos h1] at hx; rw [if_neg h2] at hx'
        exact absurd (.inr ⟨_, _, _, hx⟩) (hnew b (.inr ⟨_, _, _, hx'⟩)).2.2
      · rw [if_neg h1] at hx; rw [if_pos h2] at hx'
        exact absurd (.inr ⟨_, _, _, hx'⟩) (hnew b (.inr ⟨_, _, _, hx⟩)).2.2
      · rw [if_neg h1] at hx; rw [if_neg h2] at hx'
        obtain ⟨e1, e2⟩ := hid.inj _ _ _ _ _ _ _ hx hx' (hnogone _) (hnogone _)
        exact ⟨by omega, e2⟩
    · show (s.objs ++ outs)[o]? = _ ∨ ∃ i q' l τ n p f, _ ∧ _ ∧ (s.objs ++ outs)[o]? = _ ∧ ∃ y, (β.joinD s.objs.length βc) o = some y
      rw [Bet.joinD_r]
      rw [Bet.joinD_h] at hx
      by_cases h1 : o < s.objs.length
      · rw [if_pos h1] at hx
        rw [hl o h1, if_pos h1]
        exact h.hid.bound o q x hx
      · rw [if_neg h1] at hx
        rw [hr o h1, if_neg h1]
        exact hid.bound _ q x hx
    · have ho : (s.objs ++ outs)[o]? = _ := ho
      rw [Bet.joinD_r] at hb
      by_cases h1 : o < s.objs.length
      · rw [if_pos h1] at hb
        rw [hl o h1] at ho
        exact (h.hid.reps o l τ n p f ho b m hb).mono (fun _ _ h => h) (Keeps.refl _ _) rfl (fun q => by rw [Bet.joinD_h, if_pos h1]) (fun _ _ _ _ => rfl)
      · rw [if_neg h1] at hb
        rw [hr o h1] at ho
        obtain ⟨k1, k2, k0, cur, e, k3, k4, k5⟩ := hid.reps _ l τ n p f ho b m hb
        have hnp := hfull _ l τ n p f ho
        refine ⟨k1, k2, k0, cur, e, k3, k4, fun i j c hi hc => ⟨fun hp => ((k5 i j c hi hc).1 hp).mono (fun q => by rw [Bet.joinD_h, if_neg h1]) (fun _ _ _ _ => rfl), fun hp => absurd hp (by omega)⟩⟩
theorem hid_none (ok : Nat → Prop) (F : Frz) (w : World) : Hid E ok F noBet [] w :=
  ⟨fun _ _ _ _ h => (by cases h), fun _ _ _ _ h => (by cases h), fun _ _ _ _ _ _ h => (by cases h), fun _ _ _ _ _ _ _ h => (by cases h), fun _ _ _ h => (by cases h), fun _ _ _ _ _ _ h => (by simp at h)⟩
theorem callD_wp (hE : Ok E P) {pc : Pr RT den} (hpc : PrOk E P pc) {F0 : Was} {w0 : World} {F : Frz} {β : Bet} {s : St RT den} {a : Act} {w : World} (h : Rel E F0 w0 F β s a w)
    {f : Nat} {ds : List (D RT den)} {vs : Array Value} {r : D RT den} {os' : List (Ob RT den)} (hgv : pc.gv f = false) (hdp : pc.dp f = true) (hl : ds.length = vs.size) (hds : ∀ i x, ds[i]? = some x → VRep E F w β x (vs.getD i Go.undef)) (hv : callD E pc s.objs f ds = some (r, os')) :
    (∃ fn, P.funcs[f]? = some fn ∧ fn.body.isNone = false ∧ (fn.name == "runtime.NumGoroutine") = false) ∧
    Calls P f vs w (fun e w' => ∃ v F' β', e = .returned v ∧ Rel E F0 w0 F' β' { s with objs := os' } a w' ∧ VRep E F' w' β' r v ∧ s.objs.length ≤ os'.length ∧
      ∀ i, i < s.objs.length → β i = none → (∃ cs, s.objs[i]? = some (.box false cs) ∧ cs.all D.pure = true) → β' i = none ∧ os'[i]? = s.objs[i]?) := by
  simp only [callD, Option.bind_eq_some_iff] at hv
  obtain ⟨⟨c, ys, ins, l⟩, hy, hv⟩ := hv
  cases c with
  | false => cases hv
  | true =>
  simp only [cond_true, Option.bind_eq_some_iff] at hv
  obtain ⟨x, hx, ⟨c', r', os1⟩, hbk, hv⟩ := hv
  cases c' with
  | false => cases hv
  | true =>
  simp only [cond_true, Option.some.injEq, Prod.mk.injEq] at hv
  obtain ⟨rfl, rfl⟩ := hv
  have hg := hpc.fd f ys ins x hgv hdp hx
  refine ⟨hg.fn, ?_⟩
  cases hln : pc.lend f with
  | false =>
    rw [hln] at hy hbk
    simp only [argsD, Option.bind_eq_some_iff, Option.some.injEq, Prod.mk.injEq, true_and] at hy
    obtain ⟨ys', hys, rfl, rfl, rfl⟩ := hy
    simp only [backD] at hbk
    cases hq : x.1.hs && x.2.all (Ob.okD E) with
    | false => rw [hq] at hbk; cases hbk
    | true =>
    rw [hq] at hbk
    simp only [cond_true, Option.some.injEq, Prod.mk.injEq, true_and] at hbk
    obtain ⟨rfl, rfl⟩ := hbk
    simp only [Bool.and_eq_true] at hq
    obtain ⟨hhs, hok⟩ := hq
    obtain ⟨l1, l2⟩ := snaps_get hys
    refine (hg.calls (fun b o => F b o ∨ β.has b) w noBet vs ?_ (by omega) ?_ (fun o ob ho => by simp at ho) (fun o b m hb => by cases hb) (fun o o' b m m' hb => by cases hb) (hid_none _ _ _)).mono ?_
    · rintro b o (hF | ⟨i, m, hi⟩ | ⟨i, p, m, hi⟩)
      · exact h.frz b o hF
      · exact (h.names i b m hi).2.1
      · exact (h.hid.names i p b m hi).1
    · intro i y hy
      obtain ⟨d, hd, hs⟩ := l2 i y hy
      exact snap_rep hE h (fun _ _ => .inl) (hds i d hd) hs (fun _ b off hb => .inr hb)
    · rintro e w' ⟨v, F', β', rfl, k1, k2, k3, k4, k5, k6, k7, k8, k9, k10⟩
      have hno : ∀ b, ¬ noBet.has b := fun b hb => by rcases hb with ⟨_, _, hb⟩ | ⟨_, _, _, hb⟩ <;> cases hb
      have hbel : Below w.heap.size w w' := ⟨k1.os, k1.tape, k1.output, k1.size, fun j hj => k1.block j hj (hno j)⟩
      have hgr := h.grow hbel (F' := F) (fun _ _ h => h) (fun _ _ h => .inl h) (fun b o hf => Nat.lt_of_lt_of_le (h.frz b o hf) hbel.size)
      have hge : ∀ b, β'.has b → w.heap.size ≤ b := fun b hb => by
        rcases hb with ⟨o, m, hb⟩ | ⟨o, q, m, hb⟩
        · exact (k8 o b m hb).2.2.2.resolve_right (hno b)
        · exact (k10.ok o q b m hb).resolve_right (hno b)
      refine ⟨v, F, β.joinD s.objs.length β', rfl, hgr.joinD hE hok (fun k l' τ n p g hk => hg.full k l' τ n p g (Nat.zero_le _) hk) k6 k10 (fun o b m hb => ⟨(k8 o b m hb).1, (k8 o b m hb).2.2.1⟩) (fun b hb => ?_) k9, ?_, by simp, fun i hi hn _ => ⟨by rw [Bet.joinD_r, if_pos hi]; exact hn, by rw [List.getElem?_append_left hi]⟩⟩
      · have := hge b hb
        refine ⟨Nat.le_trans h.below.size this, fun off hf => by have := h.frz b off hf; omega, fun hb' => ?_⟩
        rcases hb' with ⟨o, m, hb'⟩ | ⟨o, q, m, hb'⟩
        · have := (h.names o b m hb').2.1; omega
        · have := (h.hid.names o q b m hb').1; omega
      · refine (k5.hs hhs).ren (D.hs_lx hhs) (fun o ho z hz => ?_)
        rw [Bet.joinD_r, if_neg (by omega), Nat.add_sub_cancel]
        exact hz
  | true =>
    rw [hln] at hy hbk
    simp only [argsD] at hy
    cases hq : nodups ((ds.flatMap D.srcs).map Prod.fst) && ds.all D.ldx with
    | false => rw [hq] at hy; cases hy
    | true =>
    rw [hq] at hy
    simp only [cond_true, Option.bind_eq_some_iff, Option.some.injEq, Prod.mk.injEq] at hy
    obtain ⟨⟨c, ins'⟩, hins, rfl, rfl, rfl, hle⟩ := hy
    simp only [Bool.and_eq_true] at hq
    obtain ⟨hnd, hldx⟩ := hq
    rw [List.all_eq_true] at hldx
    subst hle
    generalize hls : ds.flatMap D.srcs = l at *
    simp only [backD] at hbk
    cases hsc : x.1.scalar with
    | false => rw [hsc] at hbk; cases hbk
    | true =>
    rw [hsc] at hbk
    simp only [cond_true, Option.bind_eq_some_iff, Option.some.injEq, Prod.mk.injEq] at hbk
    obtain ⟨⟨cb, os2⟩, hbs, rfl, rfl, rfl⟩ := hbk
    obtain ⟨i1, i2, i3⟩ := insD_get hins
    obtain ⟨b1, b2, b3, b4, b5⟩ := backsD_get hE hnd hbs
    have hinl : ∀ {k : Nat} {o : Nat} {u : Option (Nat × Nat)}, l[k]? = some (o, u) → k < ins'.length := fun {k o u} hk => by rw [i1]; exact (List.getElem?_eq_some_iff.1 hk).1
    have same : ∀ {k k' o : Nat} {u u' : Option (Nat × Nat)}, l[k]? = some (o, u) → l[k']? = some (o, u') → k = k' := fun {k k' o u u'} hk hk' =>
      nodups_inj hnd (o := o) (by rw [List.getElem?_map, hk]; rfl) (by rw [List.getElem?_map, hk']; rfl)
    have live : ∀ {k o : Nat} {u : Option (Nat × Nat)}, l[k]? = some (o, u) → s.objs[o]? ≠ some .gone ∧ o < s.objs.length := fun {k o u} hk => by
      cases u with
      | none => rcases i2 k o hk with ⟨b, τ, n, g, e1, _⟩ | ⟨b, τ, n, p, g, e1, _⟩ <;> exact ⟨by rw [e1]; simp, (List.getElem?_eq_some_iff.1 e1).1⟩
      | some ij => obtain ⟨b, τ, n, p, g, _, _, _, _, e1, _⟩ := i3 k o ij.1 ij.2 hk; exact ⟨by rw [e1]; simp, (List.getElem?_eq_some_iff.1 e1).1⟩
    have insng : ∀ (k : Nat), ins'[k]? ≠ some .gone := fun k hk => by
      have hlt := (List.getElem?_eq_some_iff.1 hk).1
      obtain ⟨⟨o, u⟩, ho⟩ : ∃ z, l[k]? = some z := ⟨_, List.getElem?_eq_getElem (by omega)⟩
      cases u with
      | none => rcases i2 k o ho with ⟨b, τ, n, g, _, e1⟩ | ⟨b, τ, n, p, g, _, e1⟩ <;> (rw [e1] at hk; cases hk)
      | some ij => obtain ⟨b, τ, n, p, g, _, _, _, _, _, _, _, ⟨_, e1⟩ | ⟨_, e1⟩⟩ := i3 k o ij.1 ij.2 ho <;> (rw [e1] at hk; cases hk)
    let isD : Nat → Bool := fun k => match ins'[k]? with | some (.deep ..) => true | _ => false
    let βc : Bet := ⟨fun k => match l[k]? with | some (o, none) => β o | some (o, some (i, j)) => β.h o [i, j] | none => none,
      fun k q => bif isD k then (match l[k]?, q with | some (o, none), q => β.h o q | some (o, some (i, j)), a :: t => β.h o (i :: j :: a :: t) | _, _ => none) else none⟩
    have cr0 : ∀ {k o : Nat}, l[k]? = some (o, none) → βc k = β o := fun {k o} hk => by simp only [βc, hk]
    have cr1 : ∀ {k o i j : Nat}, l[k]? = some (o, some (i, j)) → βc k = β.h o [i, j] := fun {k o i j} hk => by simp only [βc, hk]
    have ch0 : ∀ {k o : Nat}, l[k]? = some (o, none) → isD k = true → ∀ q, βc.h k q = β.h o q := fun {k o} hk hd q => by simp only [βc, hd, cond_true, hk]
    have ch1 : ∀ {k o i j : Nat}, l[k]? = some (o, some (i, j)) → isD k = true → ∀ a t, βc.h k (a :: t) = β.h o (i :: j :: a :: t) := fun {k o i j} hk hd a t => by simp only [βc, hd, cond_true, hk]
    have cr : ∀ {k : Nat} {y}, βc k = some y → (∃ o, l[k]? = some (o, none) ∧ β o = some y) ∨ ∃ o i j, l[k]? = some (o, some (i, j)) ∧ β.h o [i, j] = some y := fun {k y} hk => by
      cases hlk : l[k]? with
      | none => simp only [βc, hlk] at hk; cases hk
      | some z =>
        obtain ⟨o, u⟩ := z
        cases u with
        | none => exact .inl ⟨o, rfl, by rw [← cr0 hlk]; exact hk⟩
        | some ij => exact .inr ⟨o, ij.1, ij.2, rfl, by rw [← cr1 hlk]; exact hk⟩
    have chd : ∀ {k : Nat} {q y}, βc.h k q = some y → isD k = true ∧ ((∃ o, l[k]? = some (o, none) ∧ β.h o q = some y) ∨ ∃ o i j a t, l[k]? = some (o, some (i, j)) ∧ q = a :: t ∧ β.h o (i :: j :: a :: t) = some y) := fun {k q y} hk => by
      cases hd : isD k with
      | false => simp only [βc, hd, cond_false] at hk; cases hk
      | true =>
        refine ⟨rfl, ?_⟩
        cases hlk : l[k]? with
        | none => simp only [βc, hd, cond_true, hlk] at hk; cases hk
        | some z =>
          obtain ⟨o, u⟩ := z
          cases u with
          | none => exact .inl ⟨o, rfl, by rw [← ch0 hlk hd]; exact hk⟩
          | some ij =>
            cases q with
            | nil => simp only [βc, hd, cond_true, hlk] at hk; cases hk
            | cons a t => exact .inr ⟨o, ij.1, ij.2, a, t, rfl, rfl, by rw [← ch1 hlk hd]; exact hk⟩
    have hdeepD : ∀ {k : Nat} {b : Bool} {τ : RT} {n p : Nat} {g : Nat → den τ}, ins'[k]? = some (.deep b τ n p g) → isD k = true := fun {k b τ n p g} hk => by simp only [isD, hk]
    have hrowD : ∀ {k : Nat} {b : Bool} {τ : RT} {n : Nat} {g : Nat → den τ}, ins'[k]? = some (.row b τ n g) → isD k = false := fun {k b τ n g} hk => by simp only [isD, hk]
    have nest : ∀ {k o i j : Nat}, l[k]? = some (o, some (i, j)) → (∃ q y, β.h o q = some y) → ∃ b τ n p g z τ' n' f' v, s.objs[o]? = some (.deep b τ n p g) ∧ i < p ∧ (E.cells τ (g i))[j]? = some (.rs z τ' n' f') ∧ ((E.scl τ' = true ∧ ins'[k]? = some (.row true τ' n' f')) ∨ (E.scl τ' = false ∧ ins'[k]? = some (.deep true τ' n' n' f'))) ∧ TRep E w (β.h o) [i, j] (.rs z τ' n' f') v := by
      intro k o i j hk ⟨q, y, hy⟩
      obtain ⟨b, τ, n, p, g, z, τ', n', f', e1, e2, e3, e4⟩ := i3 k o i j hk
      rcases h.hid.bound o _ y hy with h9 | ⟨_, _, _, _, _, _, _, _, _, _, y0, hy0⟩
      · exact absurd h9 (live hk).1
      · obtain ⟨k1, k2, k0, cur, e, k3, k4, k5⟩ := h.hid.reps o b τ n p g e1 y0.1 y0.2 hy0
        exact ⟨b, τ, n, p, g, z, τ', n', f', _, e1, e2, e3, e4, (k5 i j _ (by omega) e3).1 e2⟩
    have hasc : ∀ {b : Nat}, βc.has b → (∃ (k o : Nat) (m : Nat × Nat), l[k]? = some (o, none) ∧ β o = some (b, m)) ∨ (∃ (k o i j : Nat) (m : Nat × Nat), l[k]? = some (o, some (i, j)) ∧ β.h o [i, j] = some (b, m)) ∨ (∃ (k o : Nat) (q : List Nat) (m : Nat × Nat), l[k]? = some (o, none) ∧ β.h o q = some (b, m)) ∨ ∃ (k o i j a : Nat) (t : List Nat) (m : Nat × Nat), l[k]? = some (o, some (i, j)) ∧ β.h o (i :: j :: a :: t) = some (b, m) := by
      rintro b (⟨k, m, hb⟩ | ⟨k, q, m, hb⟩)
      · rcases cr hb with ⟨o, h1, h2⟩ | ⟨o, i, j, h1, h2⟩
        · exact .inl ⟨k, o, m, h1, h2⟩
        · exact .inr (.inl ⟨k, o, i, j, m, h1, h2⟩)
      · rcases (chd hb).2 with ⟨o, h1, h2⟩ | ⟨o, i, j, a, t, h1, _, h2⟩
        · exact .inr (.inr (.inl ⟨k, o, q, m, h1, h2⟩))
        · exact .inr (.inr (.inr ⟨k, o, i, j, a, t, m, h1, h2⟩))
    have hasβ : ∀ {b : Nat}, βc.has b → β.has b := fun {b} hb => by
      rcases hasc hb with ⟨k, o, m, _, h2⟩ | ⟨k, o, i, j, m, _, h2⟩ | ⟨k, o, q, m, _, h2⟩ | ⟨k, o, i, j, a, t, m, _, h2⟩
      · exact .inl ⟨_, _, h2⟩
      · exact .inr ⟨_, _, _, h2⟩
      · exact .inr ⟨_, _, _, h2⟩
      · exact .inr ⟨_, _, _, h2⟩
    have hidc : Hid E βc.has F βc ins' w := by
      refine ⟨fun k q b m hb => .inr ⟨k, q, m, hb⟩, fun k q b m hb => ?_, fun k q b m k' m' hb hb' => ?_, fun k q k' q' b m m' hb hb' _ _ => ?_, fun k q y hb => ?_, fun k l0 τ n p g hk b m hb => ?_⟩
      · have hk : k < ins'.length := by
          rcases (chd hb).2 with ⟨o, h1, _⟩ | ⟨o, i, j, a, t, h1, _, _⟩ <;> exact hinl h1
        rcases (chd hb).2 with ⟨o, _, h2⟩ | ⟨o, i, j, a, t, _, _, h2⟩ <;> (obtain ⟨n1, n2, _⟩ := h.hid.names _ _ _ _ h2; exact ⟨n1, n2, hk⟩)
      · exfalso
        rcases (chd hb).2 with ⟨o, h1, h2⟩ | ⟨o, i, j, a, t, h1, _, h2⟩ <;> rcases cr hb' with ⟨o', h1', h2'⟩ | ⟨o', i', j', h1', h2'⟩
        · exact (live h1').1 (h.hid.real _ _ _ _ _ _ h2 h2')
        · obtain ⟨e1, e2⟩ := h.hid.inj _ _ _ _ _ _ _ h2 h2' (live h1).1 (live h1').1
          subst e1
          have := same h1 h1'
          subst this
          rw [h1] at h1'; cases h1'
        · exact (live h1').1 (h.hid.real _ _ _ _ _ _ h2 h2')
        · obtain ⟨e1, e2⟩ := h.hid.inj _ _ _ _ _ _ _ h2 h2' (live h1).1 (live h1').1
          simp at e2
      · rcases (chd hb).2 with ⟨o, h1, h2⟩ | ⟨o, i, j, a, t, h1, e, h2⟩ <;> rcases (chd hb').2 with ⟨o', h1', h2'⟩ | ⟨o', i', j', a', t', h1', e', h2'⟩ <;> obtain ⟨e1, e2⟩ := h.hid.inj _ _ _ _ _ _ _ h2 h2' (live h1).1 (live h1').1 <;> subst e1 <;> have := same h1 h1' <;> subst this
        · exact ⟨rfl, e2⟩
        · rw [h1] at h1'; cases h1'
        · rw [h1] at h1'; cases h1'
        · simp only [List.cons.injEq] at e2
          exact ⟨rfl, by rw [e, e', e2.2.2.1, e2.2.2.2]⟩
      · obtain ⟨hd, hb⟩ := chd hb
        rcases hb with ⟨o, h1, h2⟩ | ⟨o, i, j, a, t, h1, e, h2⟩
        · rcases h.hid.bound _ _ _ h2 with h9 | ⟨i, q', l0, τ, n, p, g, e1, e2, e3, e4⟩
          · exact absurd h9 (live h1).1
          · rcases i2 k o h1 with ⟨b, τ', n', g', f1, f2⟩ | ⟨b, τ', n', p', g', f1, f2⟩
            · rw [e3] at f1; cases f1
            · rw [e3] at f1; cases f1
              exact .inr ⟨i, q', true, τ, n, p, g, e1, e2, f2, by rw [cr0 h1]; exact e4⟩
        · obtain ⟨b, τ, n, p, g, z, τ', n', f', v, f1, f2, f3, f4, f5⟩ := nest h1 ⟨_, _, h2⟩
          rcases f4 with ⟨_, f4⟩ | ⟨_, f4⟩
          · rw [hrowD f4] at hd; cases hd
          · cases f5 with
            | sc _ _ _ h1 => simp [D.sce] at h1
            | nul _ _ _ _ _ _ _ _ h4 => have := h4 (a :: t); rw [show [i, j] ++ a :: t = i :: j :: a :: t from rfl, h2] at this; cases this
            | row _ _ _ _ cap b' cur' e' q1 q2 q3 q4 q5 q6 => exact .inr ⟨a, t, true, τ', n', n', f', e, q5 a t y h2, f4, by rw [cr1 h1]; exact ⟨_, q1⟩⟩
      · rcases cr hb with ⟨o, h1, h2⟩ | ⟨o, i, j, h1, h2⟩
        · rcases i2 k o h1 with ⟨b', τ', n', g', f1, f2⟩ | ⟨b', τ', n', p', g', f1, f2⟩
          · rw [hk] at f2; cases f2
          · rw [hk] at f2; cases f2
            exact (h.hid.reps o _ _ _ _ _ f1 b m h2).mono (fun _ _ h => h) (Keeps.refl _ _) rfl (fun q => ch0 h1 (hdeepD hk) q) (fun _ _ _ _ => rfl)
        · obtain ⟨b', τ', n', p', g', z, τ1, n1, f1, v, e1, e2, e3, e4, e5⟩ := nest h1 ⟨_, _, h2⟩
          rcases e4 with ⟨_, e4⟩ | ⟨_, e4⟩
          · rw [hk] at e4; cases e4
          · rw [hk] at e4; cases e4
            cases e5 with
            | sc _ _ _ h1 => simp [D.sce] at h1
            | nul _ _ _ _ _ _ _ _ h4 => have := h4 []; rw [List.append_nil, h2] at this; cases this
            | row _ _ _ _ cap b' cur' e' q1 q2 q3 q4 q5 q6 =>
              rw [q1] at h2; cases h2
              exact ⟨rfl, q2, Nat.le_refl _, cur', e', q3, q4, fun i2 j2 c hi hc => ⟨fun _ => (q6 i2 j2 c hi hc).move (fun q => ch1 h1 (hdeepD hk) i2 (j2 :: q)) (fun _ _ _ _ => rfl), fun hp => absurd hp (by omega)⟩⟩
    have hargs : ∀ (i : Nat) y, (posA ds 0)[i]? = some y → VRep E F w βc y (vs.getD i Go.undef) := by
      intro i y hy
      obtain ⟨d, hd, rfl⟩ := posA_get ds 0 i y hy
      have hv := hds i d hd
      have hx := hldx d (List.mem_of_getElem? hd)
      rw [Nat.zero_add]
      have at' : ∀ (q : Nat) c, d.srcs[q]? = some c → l[((ds.take i).flatMap D.srcs).length + q]? = some c := fun q c hc => by rw [← hls]; exact flatMap_at D.srcs ds i d q c hd hc
      by_cases hag : ∃ cs, d = .agg cs
      · obtain ⟨cs, rfl⟩ := hag
        generalize vs.getD i Go.undef = v at hv
        cases hv with
        | agg _ ws k1 k2 =>
          refine .agg _ ws (by rw [posL_len]; exact k1) (fun j c' hc' => ?_)
          obtain ⟨c, hc, rfl⟩ := posL_get cs _ j c' hc'
          have hcx : c.ld = true := by
            simp only [D.ldx, List.all_eq_true] at hx
            exact hx c (List.mem_of_getElem? hc)
          have here : ∀ z, c.src1 = [z] → l[((ds.take i).flatMap D.srcs).length + ((cs.take j).flatMap D.src1).length]? = some z := fun z hz => by
            refine at' _ z ?_
            have := flatMap_at D.src1 cs j c 0 z hc (by rw [hz]; rfl)
            rw [Nat.add_zero] at this
            exact this
          exact pos1_rep (k2 j c hc) hcx (fun o ho => cr0 (here _ ho)) (fun o i' j' b m ho hb => by rw [cr1 (here _ ho)]; exact hb)
      · have e1 : d.posd ((ds.take i).flatMap D.srcs).length = d.pos1 ((ds.take i).flatMap D.srcs).length := by cases d <;> first | rfl | (exact absurd ⟨_, rfl⟩ hag)
        have e2 : d.srcs = d.src1 := by cases d <;> first | rfl | (exact absurd ⟨_, rfl⟩ hag)
        have e3 : d.ld = true := by cases d <;> first | exact hx | (exact absurd ⟨_, rfl⟩ hag)
        rw [e1]
        have here : ∀ z, d.src1 = [z] → l[((ds.take i).flatMap D.srcs).length]? = some z := fun z hz => by
          have := at' 0 z (by rw [e2, hz]; rfl)
          rw [Nat.add_zero] at this
          exact this
        exact pos1_rep hv e3 (fun o ho => cr0 (here _ ho)) (fun o i' j' b m ho hb => by rw [cr1 (here _ ho)]; exact hb)
    have hobjs : ∀ (k : Nat) ob, ins'[k]? = some ob → ∀ b m, βc k = some (b, m) → ORep E F w βc b m ob := by
      intro k ob hk b m hb
      rcases cr hb with ⟨o, h1, h2⟩ | ⟨o, i, j, h1, h2⟩
      · rcases i2 k o h1 with ⟨b', τ', n', g', f1, f2⟩ | ⟨b', τ', n', p', g', f1, f2⟩
        · rw [hk] at f2; cases f2
          exact h.objs o _ f1 b m h2
        · rw [hk] at f2; cases f2; trivial
      · obtain ⟨b', τ', n', p', g', z, τ1, n1, f1, v, e1, e2, e3, e4, e5⟩ := nest h1 ⟨_, _, h2⟩
        rcases e4 with ⟨hs, e4⟩ | ⟨_, e4⟩
        · rw [hk] at e4; cases e4
          cases e5 with
          | sc _ _ _ h1 => simp [D.sce] at h1
          | nul _ _ _ _ _ _ _ _ h4 => have := h4 []; rw [List.append_nil, h2] at this; cases this
          | row _ _ _ _ cap b' cur' e' q1 q2 q3 q4 q5 q6 =>
            rw [q1] at h2; cases h2
            refine ⟨rfl, q2, cur', e', q3, q4, fun i2 j2 c hi hc => ?_⟩
            have := hE.scl τ1 hs (f1 i2)
            rw [List.all_eq_true] at this
            exact (q6 i2 j2 c hi hc).sce (this c (List.mem_of_getElem? hc))
        · rw [hk] at e4; cases e4; trivial
    have hnames : ∀ k b m, βc k = some (b, m) → b < w.heap.size ∧ (∀ off, ¬ F b off) ∧ k < ins'.length := by
      intro k b m hb
      rcases cr hb with ⟨o, h1, h2⟩ | ⟨o, i, j, h1, h2⟩
      · obtain ⟨n1, n2, n3, n4⟩ := h.names o b m h2; exact ⟨n2, n3, hinl h1⟩
      · obtain ⟨n1, n2, n3⟩ := h.hid.names _ _ _ _ h2; exact ⟨n1, n2, hinl h1⟩
    have hinj : ∀ k k' b m m', βc k = some (b, m) → βc k' = some (b, m') → k = k' := by
      intro k k' b m m' hb hb'
      rcases cr hb with ⟨o, h1, h2⟩ | ⟨o, i, j, h1, h2⟩ <;> rcases cr hb' with ⟨o', h1', h2'⟩ | ⟨o', i', j', h1', h2'⟩
      · have := h.inj _ _ _ _ _ h2 h2'; subst this; exact same h1 h1'
      · exact absurd (h.hid.real _ _ _ _ _ _ h2' h2) (live h1).1
      · exact absurd (h.hid.real _ _ _ _ _ _ h2 h2') (live h1').1
      · have := (h.hid.inj _ _ _ _ _ _ _ h2 h2' (live h1).1 (live h1').1).1; subst this; exact same h1 h1'
    refine (hg.calls F w βc vs h.frz (by rw [posA_len]; exact hl) hargs hobjs hnames hinj hidc).mono ?_
    rintro e w' ⟨v, F', β', rfl, k1, k2, k3, k4, k5, k6, k7, k8, k9, k10⟩
    have hk : Keeps F w w' := fun b o u hf hc => by
      have hbl : w'.heap[b]? = w.heap[b]? := k1.block b (h.frz b o hf) (fun hb => by
        rcases hasβ hb with ⟨i, m, hi⟩ | ⟨i, q, m, hi⟩
        · exact (h.names i b m hi).2.2.1 o hf
        · exact (h.hid.names i q b m hi).2.1 o hf)
      unfold World.cell? at hc ⊢
      simp only [at'] at hc ⊢
      rw [hbl]; exact hc
    have unreal : ∀ (o : Nat) b m, β o = some (b, m) → (∀ (k : Nat), l[k]? ≠ some (o, none)) → s.objs[o]? ≠ some .gone → w'.heap[b]? = w.heap[b]? := by
      intro o b m hb hno hg
      refine k1.block b (h.names o b m hb).2.1 (fun hc => ?_)
      rcases hasc hc with ⟨k, o', m', h1, h2⟩ | ⟨k, o', i, j, m', h1, h2⟩ | ⟨k, o', q, m', h1, h2⟩ | ⟨k, o', i, j, a, t, m', h1, h2⟩
      · have := h.inj _ _ _ _ _ hb h2; subst this; exact hno k h1
      · exact hg (h.hid.real _ _ _ _ _ _ h2 hb)
      · exact hg (h.hid.real _ _ _ _ _ _ h2 hb)
      · exact hg (h.hid.real _ _ _ _ _ _ h2 hb)
    have unhid : ∀ (o : Nat) q b m, β.h o q = some (b, m) → s.objs[o]? ≠ some .gone → (∀ (k : Nat), l[k]? ≠ some (o, none)) → (∀ (k i j : Nat) (t : List Nat), l[k]? = some (o, some (i, j)) → q ≠ i :: j :: t) → w'.heap[b]? = w.heap[b]? := by
      intro o q b m hb hg hno hno2
      refine k1.block b (h.hid.names o q b m hb).1 (fun hc => ?_)
      rcases hasc hc with ⟨k, o', m', h1, h2⟩ | ⟨k, o', i, j, m', h1, h2⟩ | ⟨k, o', q', m', h1, h2⟩ | ⟨k, o', i, j, a, t, m', h1, h2⟩
      · exact (live h1).1 (h.hid.real _ _ _ _ _ _ hb h2)
      · obtain ⟨e1, e2⟩ := h.hid.inj _ _ _ _ _ _ _ hb h2 hg (live h1).1
        subst e1; exact hno2 k i j [] h1 e2
      · obtain ⟨e1, e2⟩ := h.hid.inj _ _ _ _ _ _ _ hb h2 hg (live h1).1
        subst e1; exact hno k h1
      · obtain ⟨e1, e2⟩ := h.hid.inj _ _ _ _ _ _ _ hb h2 hg (live h1).1
        subst e1; exact hno2 k i j (a :: t) h1 e2
    have base : ∀ o, o ∈ l.map Prod.fst → ∃ (k : Nat) (u : Option (Nat × Nat)), l[k]? = some (o, u) := fun o ho => by
      obtain ⟨⟨o', u⟩, h1, h2⟩ := List.mem_map.1 ho
      dsimp only at h2
      subst h2
      obtain ⟨k, hk⟩ := List.mem_iff_getElem?.1 h1
      exact ⟨k, u, hk⟩
    have nob : ∀ o, o ∉ l.map Prod.fst → ∀ (k : Nat) u, l[k]? ≠ some (o, u) := fun o ho k u hk => ho (List.mem_map.2 ⟨_, List.mem_of_getElem? hk, rfl⟩)
    have goneS : ∀ (o : Nat), s.objs[o]? = some .gone → os2[o]? = some .gone := fun o ho => by
      rw [b3 o (fun hm => by obtain ⟨k, u, hk⟩ := base o hm; exact (live hk).1 ho)]; exact ho
    have kB : ∀ {k o : Nat}, l[k]? = some (o, none) → β' k = β o := fun {k o} hk => by rw [(k7 k (hinl hk)).1]; exact cr0 hk
    have kN : ∀ {k o i j : Nat}, l[k]? = some (o, some (i, j)) → β' k = β.h o [i, j] := fun {k o i j} hk => by rw [(k7 k (hinl hk)).1]; exact cr1 hk
    refine ⟨v, F', β, rfl, ⟨h.defers, h.size, fun i d hd => (h.slots i d hd).mono k2 hk (Bet.le_refl _), fun o ob ho b m hb => ?_, fun o b m hb => ?_, h.inj, ?_, k4, fun b o hf => k2 b o (h.frz1 b o hf), fun b o hf => (k3 b o hf).elim (h.frz2 b o) (fun hge => .inr (.inl (Nat.le_trans h.below.size hge))), fun o ho => ?_, h.placeH, ?_⟩, k5.scalar hsc, by show s.objs.length ≤ os2.length; omega, fun i hi hn hbx => ⟨hn, ?_⟩⟩
    · have ho : os2[o]? = some ob := ho
      by_cases hm : o ∈ l.map Prod.fst
      · obtain ⟨k, u, hkl⟩ := base o hm
        cases u with
        | none =>
          rcases b4 k o hkl with ⟨b0, lb, τ, n, g, τ0, n0, f0, e1, e2, e3⟩ | ⟨b0, lb, τ, n, p, g, τ0, n0, p0, f0, e1, e2, e3⟩
          · rw [e3] at ho; cases ho
            exact k6 k _ e2 b m (by rw [kB hkl]; exact hb)
          · rw [e3] at ho; cases ho; trivial
        | some ij =>
          obtain ⟨b0, τ, n, p, g, z, τ0, n', f0, τ', g', y, _, _, _, e4, _⟩ := b5 k o ij.1 ij.2 hkl
          rw [e4] at ho; cases ho; trivial
      · rw [b3 o hm] at ho
        by_cases hgo : ob = .gone
        · subst hgo; trivial
        · exact (h.objs o ob ho b m hb).mono k2 hk (unreal o b m hb (fun k => nob o hm k none) (by rw [ho]; simpa using hgo)) (Bet.le_refl _)
    · obtain ⟨n1, n2, n3, n4⟩ := h.names o b m hb
      exact ⟨n1, Nat.lt_of_lt_of_le n2 k1.size, fun off hf => (k3 b off hf).elim (n3 off) (by omega), by show o < os2.length; omega⟩
    · refine h.below.trans ⟨k1.os, k1.tape, k1.output, k1.size, fun b hb hno => k1.block b (Nat.lt_of_lt_of_le hb h.below.size) (fun hc => ?_)⟩
      rcases hasβ hc with ⟨i, m, hi⟩ | ⟨i, q, m, hi⟩
      · rcases (h.names i b m hi).1 with h9 | h9
        · omega
        · exact hno h9
      · rcases h.hid.ok i q b m hi with h9 | h9
        · omega
        · exact hno h9
    · obtain ⟨p1, ob, p2, p3⟩ := h.place o ho
      refine ⟨p1, ?_⟩
      show ∃ ob', os2[o]? = some ob' ∧ ob'.isLent = true
      by_cases hm : o ∈ l.map Prod.fst
      · obtain ⟨k, u, hkl⟩ := base o hm
        cases u with
        | none => rcases b4 k o hkl with ⟨b0, lb, τ, n, g, τ0, n0, f0, e1, e2, e3⟩ | ⟨b0, lb, τ, n, p, g, τ0, n0, p0, f0, e1, e2, e3⟩ <;> (rw [p2] at e1; cases e1; exact ⟨_, e3, p3⟩)
        | some ij =>
          obtain ⟨b0, τ, n, p, g, z, τ0, n', f0, τ', g', y, e1, _, _, e4, _⟩ := b5 k o ij.1 ij.2 hkl
          rw [p2] at e1; cases e1; exact ⟨_, e4, p3⟩
      · exact ⟨ob, by rw [b3 o hm]; exact p2, p3⟩
    · refine ⟨h.hid.ok, fun o q b m hb => ?_, fun o q b m o' m' hb hb' => goneS o' (h.hid.real _ _ _ _ _ _ hb hb'), fun o q o' q' b m m' hb hb' hg1 hg2 => h.hid.inj _ _ _ _ _ _ _ hb hb' (fun e => hg1 (goneS o e)) (fun e => hg2 (goneS o' e)), fun o q y hb => ?_, fun o l0 τ n p g ho b m hb => ?_⟩
      · obtain ⟨n1, n2, n3⟩ := h.hid.names o q b m hb
        exact ⟨Nat.lt_of_lt_of_le n1 k1.size, fun off hf => (k3 b off hf).elim (n2 off) (by omega), by show o < os2.length; omega⟩
      · show os2[o]? = _ ∨ ∃ i q' l τ n p f, _ ∧ _ ∧ os2[o]? = _ ∧ _
        rcases h.hid.bound o q y hb with h9 | ⟨i, q', l0, τ, n, p, g, e1, e2, e3, e4⟩
        · exact .inl (goneS o h9)
        · by_cases hm : o ∈ l.map Prod.fst
          · obtain ⟨k, u, hkl⟩ := base o hm
            cases u with
            | none =>
              have hdk : isD k = true := by
                rcases i2 k o hkl with ⟨b', τ', n', g', f1, f2⟩ | ⟨b', τ', n', p', g', f1, f2⟩
                · rw [e3] at f1; cases f1
                · exact hdeepD f2
              have hb2 : β'.h k q = some y := by rw [(k7 k (hinl hkl)).2, ch0 hkl hdk]; exact hb
              rcases b4 k o hkl with ⟨b0, lb, τ', n', g', τ0, n0, f0, d1, d2, d3⟩ | ⟨b0, lb, τ', n', p', g', τ0, n0, p0, f0, d1, d2, d3⟩
              · rw [e3] at d1; cases d1
              · rcases k10.bound k q y hb2 with h9 | ⟨i', q2, l2, τ2, n2, p2, g2, c1, c2, c3, c4⟩
                · rw [d2] at h9; cases h9
                · rw [d2] at c3; cases c3
                  exact .inr ⟨i', q2, b0, _, _, _, _, c1, c2, d3, e4⟩
            | some ij =>
              obtain ⟨b0, τ', n', p', g', z, τ0, n1, f0, τ1, g1, y1, d1, _, _, d4, _⟩ := b5 k o ij.1 ij.2 hkl
              rw [e3] at d1; cases d1
              exact .inr ⟨i, q', _, _, _, _, _, e1, e2, d4, e4⟩
          · exact .inr ⟨i, q', l0, τ, n, p, g, e1, e2, by rw [b3 o hm]; exact e3, e4⟩
      · have ho : os2[o]? = some (.deep l0 τ n p g) := ho
        by_cases hm : o ∈ l.map Prod.fst
        · obtain ⟨k, u, hkl⟩ := base o hm
          cases u with
          | none =>
            rcases b4 k o hkl with ⟨b0, lb, τ', n', g', τ0, n0, f0, d1, d2, d3⟩ | ⟨b0, lb, τ', n', p', g', τ0, n0, p0, f0, d1, d2, d3⟩
            · rw [d3] at ho; cases ho
            · rw [d3] at ho; cases ho
              have hdk : isD k = true := by
                rcases i2 k o hkl with ⟨b', τ', n', g', f1, f2⟩ | ⟨b', τ', n', p', g', f1, f2⟩
                · rw [d1] at f1; cases f1
                · exact hdeepD f2
              have := k10.reps k lb τ n p g d2 b m (by rw [kB hkl]; exact hb)
              exact this.mono (fun _ _ h => h) (Keeps.refl _ _) rfl (fun q => by rw [(k7 k (hinl hkl)).2, ch0 hkl hdk]) (fun _ _ _ _ => rfl)
          | some ij =>
            obtain ⟨i, j⟩ := ij
            obtain ⟨b0, τ', n', p', g', z, τ0, n1, f0, τ1, g1, y1, d1, d2, d3, d4, d5, d6⟩ := b5 k o i j hkl
            subst d5
            rw [d4] at ho; cases ho
            have hg0 : s.objs[o]? ≠ some .gone := by rw [d1]; simp
            have nonone : ∀ (k' : Nat), l[k']? ≠ some (o, none) := fun k' hk' => by
              have := same hkl hk'; subst this; rw [hkl] at hk'; cases hk'
            obtain ⟨q1, q2, q0, cur, e', q3, q4, q5⟩ := h.hid.reps o _ _ _ _ _ d1 b m hb
            obtain ⟨b', τ', n', p', g2, z', τ2, n2, f2, e1, hip, e3, e4⟩ := i3 k o i j hkl
            rw [d1] at e1; cases e1
            rw [d2] at e3; cases e3
            have other : ∀ (i' j' : Nat) c, i' < n → (i' ≠ i ∨ j' ≠ j) → (E.cells τ (g' i'))[j']? = some c → (i' < p → TRep E w' (β.h o) [i', j'] c (cur.getD (i' * E.size τ + j') Go.undef)) ∧ (p ≤ i' → VRep E F' w' noBet c (cur.getD (i' * E.size τ + j') Go.undef)) := by
              intro i' j' c hi hne hc
              have hq := q5 i' j' c hi hc
              refine ⟨fun hp => (hq.1 hp).move (fun _ => rfl) (fun q b2 m2 hx => unhid o _ b2 m2 hx hg0 nonone (fun k' i2 j2 t hk' e => ?_)), fun hp => (hq.2 hp).mono k2 hk (Bet.le_refl _)⟩
              have := same hkl hk'; subst this
              rw [hkl] at hk'; cases hk'
              simp only [List.cons_append, List.nil_append, List.cons.injEq] at e
              rcases hne with h9 | h9
              · exact h9 e.1
              · exact h9 e.2.1
            refine ⟨q1, q2, q0, cur, e', by rw [unreal o b m hb nonone hg0]; exact q3, q4, fun i' j' c hi hc => ?_⟩
            dsimp only at hc
            by_cases hii : i' = i
            · subst hii
              rw [if_pos rfl, d3] at hc
              by_cases hjj : j' = j
              · subst hjj
                have hjl : j' < (E.cells τ (g' i')).length := (List.getElem?_eq_some_iff.1 d2).1
                simp [hjl] at hc
                subst hc
                refine ⟨fun _ => ?_, fun hp => absurd hp (by omega)⟩
                have hq := (q5 i' j' _ hi d2).1 hip
                generalize cur.getD (i' * E.size τ + j') Go.undef = v0 at hq ⊢
                cases hq with
                | sc _ _ _ h1 => simp [D.sce] at h1
                | nul _ _ _ _ a h1 h2 h3 h4 => exact .nul _ none _ _ a (by simp) (by simp) h3 h4
                | row _ _ _ _ cap b2 cur2 e2 r1 r2 r3 r4 r5 r6 =>
                  have hβk : β' k = some (b2, (n1, cap)) := by rw [kN hkl]; exact r1
                  rcases d6 with ⟨hs, lb, nn, d6⟩ | ⟨hs, lb, nn, pp, hpp, d6⟩
                  · obtain ⟨s1, s2, cur3, e3, s3, s4, s5⟩ := k6 k _ d6 b2 _ hβk
                    refine .row _ _ _ _ cap b2 cur3 e3 r1 r2 s3 s4 r5 (fun i2 j2 c hi2 hc2 => ?_)
                    have := hE.scl _ hs (g1 i2)
                    rw [List.all_eq_true] at this
                    have := this c (List.mem_of_getElem? hc2)
                    have s1 : n1 = nn := s1
                    exact .sc _ _ _ this ((s5 i2 j2 c (by omega) hc2).sce this)
                  · have hdk : isD k = true := by
                      rcases e4 with ⟨h9, _⟩ | ⟨_, h9⟩
                      · rw [hs] at h9; cases h9
                      · exact hdeepD h9
                    obtain ⟨s1, s2, s0, cur3, e3, s3, s4, s5⟩ := k10.reps k lb _ nn pp g1 d6 b2 _ hβk
                    have s1 : n1 = nn := s1
                    refine .row _ _ _ _ cap b2 cur3 e3 r1 r2 s3 s4 r5 (fun i2 j2 c hi2 hc2 => ((s5 i2 j2 c (by omega) hc2).1 (by omega)).move (fun q => ?_) (fun _ _ _ _ => rfl))
                    rw [(k7 k (hinl hkl)).2]
                    exact (ch1 hkl hdk i2 (j2 :: q)).symm
              · rw [List.getElem?_set_ne (Ne.symm hjj)] at hc
                exact other i' j' c hi (.inr hjj) hc
            · rw [if_neg hii] at hc
              exact other i' j' c hi (.inl hii) hc
        · rw [b3 o hm] at ho
          have hg0 : s.objs[o]? ≠ some .gone := by rw [ho]; simp
          exact (h.hid.reps o l0 τ n p g ho b m hb).mono k2 hk (unreal o b m hb (fun k => nob o hm k none) hg0) (fun _ => rfl) (fun q b2 m2 hx => unhid o q b2 m2 hx hg0 (fun k => nob o hm k none) (fun k i j t hk' => absurd hk' (nob o hm k _)))
    · obtain ⟨cs, hcs, _⟩ := hbx
      show os2[i]? = _
      rw [b3 i (fun hm => ?_)]
      obtain ⟨k, u, hkl⟩ := base i hm
      cases u with
      | none => rcases b4 k i hkl with ⟨b0, lb, τ, n, g, τ0, n0, f0, e1, e2, e3⟩ | ⟨b0, lb, τ, n, p, g, τ0, n0, p0, f0, e1, e2, e3⟩ <;> (rw [hcs] at e1; cases e1)
      | some ij => obtain ⟨b0, τ, n, p, g, z, τ0, n', f0, τ', g', y, e1, _⟩ := b5 k i ij.1 ij.2 hkl; rw [hcs] at e1; cases e1
theorem callX_wp (hE : Ok E P) {pc : Pr RT den} (hpc : PrOk E P pc) {F0 : Was} {w0 : World} {F : Frz} {β : Bet} {s : St RT den} {a : Act} {w : World} (h : Rel E F0 w0 F β s a w)
    {f : Nat} {ds : List (D RT den)} {vs : Array Value} {r : D RT den} {os' : List (Ob RT den)} (hl : ds.length = vs.size) (hds : ∀ i x, ds[i]? = some x → VRep E F w β x (vs.getD i Go.undef)) (hv : callX E pc s.objs f ds = some (r, os')) :
    (∃ fn, P.funcs[f]? = some fn ∧ fn.body.isNone = false ∧ (fn.name == "runtime.NumGoroutine") = false) ∧
    Calls P f vs w (fun e w' => ∃ v F' β', e = .returned v ∧ Rel E F0 w0 F' β' { s with objs := os' } a w' ∧ VRep E F' w' β' r v ∧ s.objs.length ≤ os'.length ∧
      ∀ i, i < s.objs.length → β i = none → (∃ cs, s.objs[i]? = some (.box false cs) ∧ cs.all D.pure = true) → β' i = none ∧ os'[i]? = s.objs[i]?) := by
  cases hgv : pc.gv f with
  | true => simp only [callX, hgv, cond_true] at hv; cases hv
  | false =>
  cases hdp : pc.dp f with
  | true =>
    simp only [callX, hgv, hdp, cond_true, cond_false] at hv
    exact callD_wp hE hpc h hgv hdp hl hds hv
  | false =>
  simp only [callX, hgv, hdp, cond_false] at hv
  cases hpl : (pc.pl f && !plOk2 (pc.lend f) s.objs ds) with
  | true => rw [hpl] at hv; cases hv
  | false =>
  rw [hpl] at hv
  simp only [cond_false, Option.bind_eq_some_iff] at hv
  obtain ⟨⟨ys, ins, ids⟩, hy, x, hx, hv⟩ := hv
  have hg := hpc.fx f ys ins x hgv hdp hx
  refine ⟨hg.fn, ?_⟩
  cases hln : pc.lend f with
  | true =>
    rw [hln] at hy hv
    simp only [argsX] at hy
    generalize hids : lentIds s.objs ds = ids0 at hy
    cases hq : lendOk s.objs ds ids0 with
    | false => rw [hq] at hy; cases hy
    | true =>
      rw [hq] at hy
      simp only [cond_true, Option.bind_eq_some_iff, Option.some.injEq, Prod.mk.injEq] at hy
      obtain ⟨ins', hins, rfl, rfl, hie⟩ := hy
      have hie := hie.symm
      subst hie
      simp only [lendOk, Bool.and_eq_true] at hq
      obtain ⟨hnd, hhs, hwi, hbx⟩ := hq
      rw [List.all_eq_true] at hhs hwi hbx
      simp only [backX] at hv
      cases hsc : x.1.lx && (x.2.drop ids.length).all Ob.okN with
      | false => rw [hsc] at hv; cases hv
      | true =>
        rw [hsc] at hv
        simp only [cond_true, Option.bind_eq_some_iff, Option.some.injEq, Prod.mk.injEq] at hv
        simp only [Bool.and_eq_true] at hsc
        obtain ⟨os1, hos, rfl, rfl⟩ := hv
        obtain ⟨li1, li2⟩ := lents_get hins
        let βc : Bet := ⟨fun k => (ids[k]?).bind β, fun _ _ => none⟩
        have hβc : ∀ {k : Nat} {b : Nat} {m : Nat × Nat}, βc k = some (b, m) → ∃ o, ids[k]? = some o ∧ β o = some (b, m) := fun {k b m} hk => by
          simp only [βc, Option.bind_eq_some_iff] at hk; exact hk
        have hpos : ∀ {o : Nat} {z}, o ∈ ids → β o = some z → βc (posOf ids o) = some z := fun {o z} ho hz => by
          simp only [βc, posOf_get ho, Option.bind_some]
          exact hz
        refine (hg.calls F w βc vs h.frz (by simpa using hl) ?_ ?_ ?_ ?_ (fun _ _ => rfl) ?_).mono ?_
        · intro i y hy
          rw [List.getElem?_map] at hy
          cases hd : ds[i]? with
          | none => rw [hd] at hy; cases hy
          | some d =>
            rw [hd] at hy
            simp only [Option.map_some, Option.some.injEq] at hy
            subst hy
            refine (hds i d hd).ren (hhs d (List.mem_of_getElem? hd)) (fun o ho z hz => hpos ?_ hz)
            have := hwi d (List.mem_of_getElem? hd)
            simp only [D.within, List.all_eq_true] at this
            exact List.elem_iff.1 (this o ho)
        · intro k ob hob b m hb
          obtain ⟨o, ho, hbo⟩ := hβc hb
          rcases li2 k o ho with ⟨l, τ, n, g, e1, e2⟩ | ⟨l, cs, e1, e0, e2⟩
          · rw [e2] at hob
            cases hob
            exact h.objs o _ e1 b m hbo
          · rw [e2] at hob
            cases hob
            obtain ⟨cur, e, hh, hs, hr⟩ := h.objs o _ e1 b m hbo
            refine ⟨cur, e, hh, by simpa using hs, fun j c hcj => ?_⟩
            rw [List.getElem?_map] at hcj
            cases hqj : cs[j]? with
            | none => rw [hqj] at hcj; cases hcj
            | some c0 =>
              rw [hqj] at hcj
              simp only [Option.map_some, Option.some.injEq] at hcj
              subst hcj
              rw [List.all_eq_true] at e0
              refine (hr j c0 hqj).ren1 (D.lc_lr (e0 c0 (List.mem_of_getElem? hqj))) (fun o' ho' z hz => hpos ?_ hz)
              have := hbx o (List.mem_of_getElem? ho)
              have eo : obj s.objs o = .box l cs := by unfold obj; rw [List.getD_eq_getElem?_getD, e1]; rfl
              rw [eo] at this
              simp only [Bool.and_eq_true, List.all_eq_true] at this
              exact List.elem_iff.1 (this.1 c0 (List.mem_of_getElem? hqj) o' ho')
        · intro k b m hb
          obtain ⟨o, ho, hbo⟩ := hβc hb
          obtain ⟨n1, n2, n3, n4⟩ := h.names o b m hbo
          exact ⟨n2, n3, by rw [li1]; exact (List.getElem?_eq_some_iff.1 ho).1⟩
        · intro k k' b m m' hb hb'
          obtain ⟨o, ho, hbo⟩ := hβc hb
          obtain ⟨o', ho', hbo'⟩ := hβc hb'
          have := h.inj o o' b m m' hbo hbo'
          subst this
          exact nodups_inj hnd ho ho'
        · intro k ob hob
          have hk := (List.getElem?_eq_some_iff.1 hob).1
          obtain ⟨o, ho⟩ : ∃ o, ids[k]? = some o := ⟨_, List.getElem?_eq_getElem (by omega)⟩
          rcases li2 k o ho with ⟨l, τ, n, g, e1, e2⟩ | ⟨l, cs, e1, e0, e2⟩ <;> (rw [e2] at hob; cases hob; rfl)
        · rintro e w' ⟨v, F', β', rfl, k1, k2, k3, k4, k5, k6, k7, k8, k9, _⟩
          have hlen := hg.len
          rw [li1] at hlen k7
          obtain ⟨r1, r2, r3, r4⟩ := h.back hnd k1 k2 k3 k4 hlen hos hsc.2 k6 k7 k8 k9
          refine ⟨v, F', _, rfl, r1, k5.ren hsc.1 (fun o _ z hz => r2 o z hz), by simp; omega, fun i hi hn ⟨cs, hbox, _⟩ => ?_⟩
          have hni : i ∉ ids := fun hm => by
            have := hbx i hm
            have eo : obj s.objs i = .box false cs := by unfold obj; rw [List.getD_eq_getElem?_getD, hbox]; rfl
            rw [eo] at this
            simp only [Bool.and_eq_true, List.any_eq_true] at this
            obtain ⟨_, d, hd, hr⟩ := this
            cases d with
            | ref o' off =>
              simp only [D.refTo] at hr
              have := Nat.eq_of_beq_eq_true hr
              subst this
              obtain ⟨j, hj⟩ := List.mem_iff_getElem?.1 hd
              have := hds j _ hj
              generalize vs.getD j Go.undef = v at this
              cases this with
              | ref _ _ b m hb => rw [hn] at hb; cases hb
            | _ => simp [D.refTo] at hr
          exact ⟨by rw [Bet.home_r]; rw [if_pos hi]; exact hn, by rw [List.getElem?_append_left (by omega)]; exact r4 i hni⟩
  | false =>
    rw [hln] at hy hv
    simp only [argsX, Option.bind_eq_some_iff, Option.some.injEq, Prod.mk.injEq] at hy
    obtain ⟨ys', hys, rfl, rfl, rfl⟩ := hy
    simp only [backX] at hv
    cases hq : x.1.hs && x.2.all (Ob.flat E) with
    | false => rw [hq] at hv; cases hv
    | true =>
      rw [hq] at hv
      simp only [cond_true, Option.some.injEq, Prod.mk.injEq] at hv
      obtain ⟨rfl, rfl⟩ := hv
      simp only [Bool.and_eq_true] at hq
      obtain ⟨hhs, hfl⟩ := hq
      obtain ⟨l1, l2⟩ := snaps_get hys
      refine (hg.calls (fun b o => F b o ∨ β.has b) w noBet vs ?_ (by omega) ?_ (fun o ob ho => by simp at ho) (fun o b m hb => by cases hb) (fun o o' b m m' hb => by cases hb) (fun _ _ => rfl) (fun o ob ho => by simp at ho)).mono ?_
      · rintro b o (hF | ⟨i, m, hi⟩ | ⟨i, p, m, hi⟩)
        · exact h.frz b o hF
        · exact (h.names i b m hi).2.1
        · exact (h.hid.names i p b m hi).1
      · intro i y hy
        obtain ⟨d, hd, hs⟩ := l2 i y hy
        exact snap_rep hE h (fun _ _ => .inl) (hds i d hd) hs (fun _ b off hb => .inr hb)
      · rintro e w' ⟨v, F', β', rfl, k1, k2, k3, k4, k5, k6, k7, k8, k9, _⟩
        have hbel : Below w.heap.size w w' := ⟨k1.os, k1.tape, k1.output, k1.size, fun j hj => k1.block j hj (fun ⟨o, m, hb⟩ => by cases hb)⟩
        have hgr := h.grow hbel (F' := F) (fun _ _ h => h) (fun _ _ h => .inl h) (fun b o hf => Nat.lt_of_lt_of_le (h.frz b o hf) hbel.size)
        have hnew : ∀ o b m, β' o = some (b, m) → w.heap.size ≤ b := fun o b m hb => by
          rcases (k8 o b m hb).2.2.2 with h9 | ⟨m', h9⟩
          · exact h9
          · cases h9
        refine ⟨v, F, β.join s.objs.length β', rfl, hgr.join hE hfl k6 (fun o b m hb => ?_) (fun o b m hb => hgr.hid.off_of (fun i q m' hi => by have := (h.hid.names i q b m' hi).1; have := hnew o b m hb; omega)) k9, ?_, by simp, fun i hi hn _ => ⟨?_, by rw [List.getElem?_append_left hi]⟩⟩
        · have hge := hnew o b m hb
          exact ⟨(k8 o b m hb).1, fun off hf => by have := h.frz b off hf; omega, (k8 o b m hb).2.2.1, Nat.le_trans h.below.size hge, fun i m' hi => by have := (h.names i b m' hi).2.1; omega⟩
        · refine (k5.hs hhs).ren (D.hs_lx hhs) (fun o ho z hz => ?_)
          rw [Bet.join_r]
          rw [if_neg (by omega), Nat.add_sub_cancel]
          exact hz
        · rw [Bet.join_r]
          rw [if_pos hi]; exact hn
theorem D.sc_pure {d : D RT den} (h : d.sc = true) : d.pure = true := by cases d <;> first | rfl | (cases h; done)
theorem callG_wp (hE : Ok E P) {pc : Pr RT den} (hpc : PrOk E P pc) {F0 : Was} {w0 : World} {F : Frz} {β : Bet} {s : St RT den} {a : Act} {w : World} (h : Rel E F0 w0 F β s a w)
    {f : Nat} {ds : List (D RT den)} {vs : Array Value} {y1 : Option Nat} {r : D RT den} {os' : List (Ob RT den)} (hl : ds.length = vs.size) (hds : ∀ i x, ds[i]? = some x → VRep E F w β x (vs.getD i Go.undef)) (hv : callG E pc s.objs f ds = some (y1, r, os')) :
    (∃ fn, P.funcs[f]? = some fn ∧ fn.body.isNone = false ∧ (fn.name == "runtime.NumGoroutine") = false) ∧
    Calls P f vs w (fun e w' => ∃ v F' β', e = .returned v ∧ Rel E F0 w0 F' β' (({ s with objs := os' } : St RT den).kill y1) a w' ∧ VRep E F' w' β' r v ∧ s.objs.length ≤ os'.length ∧
      ∀ i, i < s.objs.length → β i = none → (∃ cs, s.objs[i]? = some (.box false cs) ∧ cs.all D.pure = true) → β' i = none ∧ os'[i]? = s.objs[i]?) := by
  cases hgv : pc.gv f with
  | false => simp only [callG, hgv, cond_false] at hv; cases hv
  | true =>
  simp only [callG, hgv, cond_true, Option.bind_eq_some_iff, Option.some.injEq, Prod.mk.injEq] at hv
  obtain ⟨⟨v1, ys, ins⟩, hy, x, hx, ⟨r1, os1⟩, hb, rfl, rfl, rfl⟩ := hv
  have hg := hpc.fg f ys ins x hgv hx
  refine ⟨hg.fn, ?_⟩
  dsimp only at hx hb hg
  obtain ⟨x1, x2⟩ := x
  unfold backG at hb
  split at hb
  rotate_left
  · cases hb
  rename_i len' τ' n' g' hxe
  simp only [Prod.mk.injEq] at hxe
  obtain ⟨rfl, rfl⟩ := hxe
  cases hscl : E.scl τ' with
  | false => rw [hscl] at hb; cases hb
  | true =>
  rw [hscl] at hb
  simp only [cond_true] at hb
  unfold argG at hy
  split at hy
  · -- an own row
    rename_i o len rest
    cases hq : rest.all D.sc && clearS o s.objs with
    | false => rw [hq] at hy; cases hy
    | true =>
    rw [hq] at hy
    simp only [Bool.and_eq_true] at hq
    obtain ⟨hsc, hcl⟩ := hq
    simp only [cond_true] at hy
    split at hy
    rotate_left
    · cases hy
    rename_i τ n g hob
    simp only [Option.some.injEq, Prod.mk.injEq] at hy
    obtain ⟨rfl, rfl, rfl⟩ := hy
    have hb := Option.some.inj hb
    simp only [Prod.mk.injEq] at hb
    obtain ⟨rfl, rfl⟩ := hb
    have hoo := obj_some hob (by simp)
    have ho : o < s.objs.length := (List.getElem?_eq_some_iff.1 hoo).1
    let βc : Bet := ⟨fun k => if k = 0 then β o else none, fun _ _ => none⟩
    have hβ0 : βc 0 = β o := rfl
    have hβc : ∀ {k : Nat} {x}, βc k = some x → k = 0 ∧ β o = some x := fun {k x} hk => by
      have hk : (if k = 0 then β o else none) = some x := hk
      split at hk
      · rename_i e; exact ⟨e, hk⟩
      · cases hk
    have hset : ∀ b, (∃ k m, βc k = some (b, m)) ↔ ∃ m, β o = some (b, m) := fun b => ⟨fun ⟨k, m, hk⟩ => ⟨m, (hβc hk).2⟩, fun ⟨m, hm⟩ => ⟨0, m, hm⟩⟩
    refine (hg.calls F w βc vs h.frz (by simpa using hl) (fun i d hi => ?_) (fun k ob hk b m hb => ?_) (fun k b m hb => ?_) (fun k k' b m m' hb hb' => by rw [(hβc hb).1, (hβc hb').1]) (fun _ _ => rfl)).mono ?_
    · cases i with
      | zero =>
        simp only [List.getElem?_cons_zero, Option.some.injEq] at hi
        subst hi
        have := hds 0 _ rfl
        generalize vs.getD 0 Go.undef = v at this
        cases this with
        | os _ _ cap b m hb hc hl => exact .os 0 len cap b m hb hc hl
        | os0 _ a' k3 => exact .os0 0 a' k3
      | succ i =>
        simp only [List.getElem?_cons_succ] at hi
        rw [List.all_eq_true] at hsc
        exact (hds (i + 1) d hi).pure (D.sc_pure (hsc d (List.mem_of_getElem? hi)))
    · obtain ⟨rfl, hb⟩ := hβc hb
      simp only [List.getElem?_cons_zero, Option.some.injEq] at hk
      subst hk
      exact h.objs o _ hoo b m hb
    · obtain ⟨rfl, hb⟩ := hβc hb
      obtain ⟨_, n2, n3, _⟩ := h.names o b m hb
      exact ⟨n2, n3, Nat.zero_lt_one⟩
    · rintro e w' ⟨v, F', β', rfl, k1, k2, k3, k4, k5, k6, k8, k9, _⟩
      refine ⟨v, F', β.putO o (β' 0), rfl, h.given hoo hcl (β' 0) τ' n' g' ⟨k1.os, k1.tape, k1.output, k1.size, fun b hb hno => k1.block b hb (fun hc => hno ((hset b).1 hc))⟩ k2 (fun b off hf => ?_) k4 (fun b m hb => ?_), ?_, by simp, fun i hi hn ⟨cs, hbox, _⟩ => ?_⟩
      · rcases k3 b off hf with h9 | h9 | h9
        · exact .inl h9
        · exact .inr (.inl h9)
        · exact .inr (.inr ((hset b).1 h9))
      · obtain ⟨p1, p2, _, p4⟩ := k8 0 b m hb
        refine ⟨k6 0 _ rfl b m hb, p1, p2, ?_⟩
        rcases p4 with h9 | h9
        · exact .inl h9
        · exact .inr ((hset b).1 h9)
      · generalize hv : v = v' at k5
        cases k5 with
        | os _ _ cap b m hb hc hl => subst hv; exact .os o len' cap b m (by rw [Bet.putO_r, if_pos rfl]; exact hb) hc hl
        | os0 _ a' k => subst hv; exact .os0 o a' k
      · have hne : i ≠ o := fun e => by subst e; rw [hoo] at hbox; cases hbox
        exact ⟨by rw [Bet.putO_r, if_neg hne]; exact hn, by rw [List.getElem?_set_ne (Ne.symm hne)]⟩
  · -- nothing yet
    rename_i z τ rest
    cases hsc : rest.all D.sc with
    | false => rw [hsc] at hy; cases hy
    | true =>
    rw [hsc] at hy
    simp only [cond_true, Option.some.injEq, Prod.mk.injEq] at hy
    obtain ⟨rfl, rfl, rfl⟩ := hy
    have hb := Option.some.inj hb
    simp only [Prod.mk.injEq] at hb
    obtain ⟨rfl, rfl⟩ := hb
    refine (hg.calls F w noBet vs h.frz (by simpa using hl) (fun i d hi => ?_) (fun k ob hk b m hb => by cases hb) (fun k b m hb => by cases hb) (fun k k' b m m' hb => by cases hb) (fun _ _ => rfl)).mono ?_
    · cases i with
      | zero =>
        simp only [List.getElem?_cons_zero, Option.some.injEq] at hi
        subst hi
        have := hds 0 _ rfl
        generalize vs.getD 0 Go.undef = v at this
        cases this with
        | emp _ _ a' k1 k2 k3 => exact .os0 0 a' k3
      | succ i =>
        simp only [List.getElem?_cons_succ] at hi
        rw [List.all_eq_true] at hsc
        exact (hds (i + 1) d hi).pure (D.sc_pure (hsc d (List.mem_of_getElem? hi)))
    · rintro e w' ⟨v, F', β', rfl, k1, k2, k3, k4, k5, k6, k8, k9, _⟩
      have hbel : Below w.heap.size w w' := ⟨k1.os, k1.tape, k1.output, k1.size, fun j hj => k1.block j hj (fun ⟨o, m, hb⟩ => by cases hb)⟩
      have hgr := h.grow hbel (F' := F) (fun _ _ h => h) (fun _ _ h => .inl h) (fun b o hf => Nat.lt_of_lt_of_le (h.frz b o hf) hbel.size)
      have hnew : ∀ o b m, β' o = some (b, m) → w.heap.size ≤ b := fun o b m hb => by
        rcases (k8 o b m hb).2.2.2 with h9 | ⟨i, m', h9⟩
        · exact h9
        · cases h9
      have hfl : [Ob.row false τ' n' g'].all (Ob.flat E) = true := by simp [Ob.flat, hscl]
      refine ⟨v, F, β.join s.objs.length β', rfl, hgr.join hE hfl k6 (fun o b m hb => ?_) (fun o b m hb => hgr.hid.off_of (fun i q m' hi => by have := (h.hid.names i q b m' hi).1; have := hnew o b m hb; omega)) k9, ?_, by simp, fun i hi hn _ => ⟨?_, by rw [List.getElem?_append_left hi]⟩⟩
      · have hge := hnew o b m hb
        exact ⟨(k8 o b m hb).1, fun off hf => by have := h.frz b off hf; omega, (k8 o b m hb).2.2.1, Nat.le_trans h.below.size hge, fun i m' hi => by have := (h.names i b m' hi).2.1; omega⟩
      · generalize hv : v = v' at k5
        cases k5 with
        | os _ _ cap b m hb hc hl =>
          subst hv
          refine .os _ len' cap b m ?_ hc hl
          rw [Bet.join_r, if_neg (Nat.lt_irrefl _), Nat.sub_self]
          exact hb
        | os0 _ a' k => subst hv; exact .os0 _ a' k
      · rw [Bet.join_r, if_pos hi]; exact hn
  · cases hy
end Go.Proofs.Ytcmfekgdlaffkaa.Vm
