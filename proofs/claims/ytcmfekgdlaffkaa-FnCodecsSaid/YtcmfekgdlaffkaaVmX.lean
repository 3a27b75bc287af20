
/- The value machine: calls that lend rows or are handed rows, on the machine. Conditions: none. -/
import Derived.Test.YtcmfekgdlaffkaaVmW
namespace Go.Proofs.Ytcmfekgdlaffkaa.Vm
open Go Go.RowKit
set_option linter.unusedVariables false
set_option linter.unusedSimpArgs false
variable {RT : Type} {den : RT → Type} {E : Env RT den} {P : Program}
structure GoodX (E : Env RT den) (P : Program) (f : Nat) (xs : List (D RT den)) (ins : List (Ob RT den)) (r : D RT den) (outs : List (Ob RT den)) : Prop where
 fn : ∃ fn, P.funcs[f]? = some fn ∧ fn.body.isNone = false ∧ (fn.name == "runtime.NumGoroutine") = false
 len : ins.length ≤ outs.length
 calls : ∀ (F : Frz) (w : World) (β : Bet) (vs : Array Value), Low E F w → xs.length = vs.size → (∀ i x, xs[i]? = some x → VRep E F w β x (vs.getD i Go.undef)) →
  (∀ o ob, ins[o]? = some ob → ∀ b m, β o = some (b, m) → ORep E F w β b m ob) → (∀ o b m, β o = some (b, m) → b < w.heap.size ∧ (∀ off, ¬ F b off) ∧ o < ins.length) → (∀ o o' b m m', β o = some (b, m) → β o' = some (b, m') → o = o') → (∀ o q, β.h o q = none) → (∀ (o : Nat) (ob : Ob RT den), ins[o]? = some ob → ob.dg = false) →
  Calls P f vs w (fun e w' => ∃ v F' β', e = .returned v ∧ Keep (fun b => ∃ o m, β o = some (b, m)) w.heap.size w w' ∧ (∀ b o, F b o → F' b o) ∧ (∀ b o, F' b o → F b o ∨ w.heap.size ≤ b) ∧ (∀ b o, F' b o → b < w'.heap.size) ∧
   VRep E F' w' β' r v ∧ (∀ o ob, outs[o]? = some ob → ∀ b m, β' o = some (b, m) → ORep E F' w' β' b m ob) ∧ (∀ o, o < ins.length → β' o = β o) ∧
   (∀ o b m, β' o = some (b, m) → b < w'.heap.size ∧ (∀ off, ¬ F' b off) ∧ o < outs.length ∧ (w.heap.size ≤ b ∨ ∃ m', β o = some (b, m'))) ∧ (∀ o o' b m m', β' o = some (b, m) → β' o' = some (b, m') → o = o') ∧ ∀ o q, β'.h o q = none)
structure GoodD (E : Env RT den) (P : Program) (f : Nat) (xs : List (D RT den)) (ins : List (Ob RT den)) (r : D RT den) (outs : List (Ob RT den)) : Prop where
 fn : ∃ fn, P.funcs[f]? = some fn ∧ fn.body.isNone = false ∧ (fn.name == "runtime.NumGoroutine") = false
 len : ins.length ≤ outs.length
 full : ∀ (k : Nat) l τ n p g, ins.length ≤ k → outs[k]? = some (Ob.deep l τ n p g) → n ≤ p
 calls : ∀ (F : Frz) (w : World) (β : Bet) (vs : Array Value), Low E F w → xs.length = vs.size → (∀ i x, xs[i]? = some x → VRep E F w β x (vs.getD i Go.undef)) →
  (∀ o ob, ins[o]? = some ob → ∀ b m, β o = some (b, m) → ORep E F w β b m ob) → (∀ o b m, β o = some (b, m) → b < w.heap.size ∧ (∀ off, ¬ F b off) ∧ o < ins.length) → (∀ o o' b m m', β o = some (b, m) → β o' = some (b, m') → o = o') → Hid E β.has F β ins w →
  Calls P f vs w (fun e w' => ∃ v F' β', e = .returned v ∧ Keep β.has w.heap.size w w' ∧ (∀ b o, F b o → F' b o) ∧ (∀ b o, F' b o → F b o ∨ w.heap.size ≤ b) ∧ (∀ b o, F' b o → b < w'.heap.size) ∧
   VRep E F' w' β' r v ∧ (∀ o ob, outs[o]? = some ob → ∀ b m, β' o = some (b, m) → ORep E F' w' β' b m ob) ∧ (∀ o, o < ins.length → β' o = β o ∧ β'.h o = β.h o) ∧
   (∀ o b m, β' o = some (b, m) → b < w'.heap.size ∧ (∀ off, ¬ F' b off) ∧ o < outs.length ∧ (w.heap.size ≤ b ∨ β.has b)) ∧ (∀ o o' b m m', β' o = some (b, m) → β' o' = some (b, m') → o = o') ∧ Hid E (fun b => w.heap.size ≤ b ∨ β.has b) F' β' outs w')
structure GoodG (E : Env RT den) (P : Program) (f : Nat) (xs : List (D RT den)) (ins : List (Ob RT den)) (r : D RT den) (outs : List (Ob RT den)) : Prop where
 fn : ∃ fn, P.funcs[f]? = some fn ∧ fn.body.isNone = false ∧ (fn.name == "runtime.NumGoroutine") = false
 calls : ∀ (F : Frz) (w : World) (β : Bet) (vs : Array Value), Low E F w → xs.length = vs.size → (∀ i x, xs[i]? = some x → VRep E F w β x (vs.getD i Go.undef)) →
  (∀ o ob, ins[o]? = some ob → ∀ b m, β o = some (b, m) → ORep E F w β b m ob) → (∀ o b m, β o = some (b, m) → b < w.heap.size ∧ (∀ off, ¬ F b off) ∧ o < ins.length) → (∀ o o' b m m', β o = some (b, m) → β o' = some (b, m') → o = o') → (∀ o q, β.h o q = none) →
  Calls P f vs w (fun e w' => ∃ v F' β', e = .returned v ∧ Keep (fun b => ∃ o m, β o = some (b, m)) w.heap.size w w' ∧ (∀ b o, F b o → F' b o) ∧ (∀ b o, F' b o → F b o ∨ w.heap.size ≤ b ∨ ∃ i m, β i = some (b, m)) ∧ (∀ b o, F' b o → b < w'.heap.size) ∧
   VRep E F' w' β' r v ∧ (∀ o ob, outs[o]? = some ob → ∀ b m, β' o = some (b, m) → ORep E F' w' β' b m ob) ∧
   (∀ o b m, β' o = some (b, m) → b < w'.heap.size ∧ (∀ off, ¬ F' b off) ∧ o < outs.length ∧ (w.heap.size ≤ b ∨ ∃ i m', β i = some (b, m'))) ∧ (∀ o o' b m m', β' o = some (b, m) → β' o' = some (b, m') → o = o') ∧ ∀ o q, β'.h o q = none)
structure PrOk (E : Env RT den) (P : Program) (pc : Pr RT den) : Prop where
 fn : ∀ f xs r, pc.fn f xs = some r → Good E P f xs r
 fx : ∀ f xs ins x, pc.gv f = false → pc.dp f = false → pc.fx f xs ins = some x → GoodX E P f xs ins x.1 x.2
 fd : ∀ f xs ins x, pc.gv f = false → pc.dp f = true → pc.fx f xs ins = some x → GoodD E P f xs ins x.1 x.2
 fg : ∀ f xs ins x, pc.gv f = true → pc.fx f xs ins = some x → GoodG E P f xs ins x.1 x.2
def D.lr : D RT den → Bool
 | .ref .. => true
 | d => d.lc
theorem D.lc_lr {d : D RT den} (h : d.lc = true) : d.lr = true := by
 cases d <;> first | exact h | rfl
theorem VRep.ren1 {F : Frz} {w : World} {β β' : Bet} {σ : Nat → Nat} {d : D RT den} {v : Value} (h : VRep E F w β d v) (hd : d.lr = true) (hσ : ∀ o, o ∈ d.ids1 → ∀ x, β o = some x → β' (σ o) = some x) : VRep E F w β' (d.ren1 σ) v := by
 cases h with
 | os o len cap b m hb hc hl => exact .os (σ o) len cap b m (hσ o (by simp [D.ids1]) _ hb) hc hl
 | os0 o a' k3 => exact .os0 (σ o) a' k3
 | ref o off b m hb => exact .ref (σ o) off b m (hσ o (by simp [D.ids1]) _ hb)
 | emp z τ a' k1 k2 k3 => exact .emp z τ a' k1 k2 k3
 | int k n => exact .int k n
 | bool b => exact .bool b
 | str b => exact .str b
 | nil => exact .nil
 | rptr cs b o u k1 k2 => exact .rptr cs b o u k1 k2
 | rs z τ n f a cap b o u k1 k2 k3 k4 k5 k6 k7 k8 => exact .rs z τ n f a cap b o u k1 k2 k3 k4 k5 k6 k7 k8
 | fn f cap vs h1 h2 =>
  have hp : (D.fn f cap : D RT den).pure = true := by simpa [D.lr, D.lc, D.hc, D.sc] using hd
  exact VRep.pure hp (.fn f cap vs h1 h2)
 | _ => simp [D.lr, D.lc, D.hc, D.sc, D.pure] at hd
theorem VRep.ren {F : Frz} {w : World} {β β' : Bet} {σ : Nat → Nat} {d : D RT den} {v : Value} (h : VRep E F w β d v) (hd : d.lx = true) (hσ : ∀ o, o ∈ d.ids → ∀ x, β o = some x → β' (σ o) = some x) : VRep E F w β' (d.ren σ) v := by
 cases h with
 | agg cs vs h1 h2 =>
  simp only [D.lx, List.all_eq_true] at hd
  refine .agg _ vs (by simpa using h1) (fun j c hc => ?_)
  rw [List.getElem?_map] at hc
  cases hq : cs[j]? with
  | none => rw [hq] at hc; cases hc
  | some c0 =>
   rw [hq] at hc
   simp only [Option.map_some, Option.some.injEq] at hc
   subst hc
   exact (h2 j c0 hq).ren1 (D.lc_lr (hd c0 (List.mem_of_getElem? hq))) (fun o ho => hσ o (by simp only [D.ids, List.mem_flatMap]; exact ⟨c0, List.mem_of_getElem? hq, ho⟩))
 | tup cs vs h1 h2 => exact VRep.scalar (d := .tup cs) hd (.tup cs vs h1 h2)
 | os o len cap b m hb hc hl => exact (VRep.os o len cap b m hb hc hl).ren1 hd hσ
 | os0 o a' k3 => exact (VRep.os0 o a' k3).ren1 hd hσ
 | ref o off b m hb => exact (VRep.ref o off b m hb).ren1 rfl hσ
 | emp z τ a' k1 k2 k3 => exact .emp z τ a' k1 k2 k3
 | int k n => exact .int k n
 | bool b => exact .bool b
 | str b => exact .str b
 | nil => exact .nil
 | rptr cs b o u k1 k2 => exact .rptr cs b o u k1 k2
 | rs z τ n f a cap b o u k1 k2 k3 k4 k5 k6 k7 k8 => exact .rs z τ n f a cap b o u k1 k2 k3 k4 k5 k6 k7 k8
 | fn f cap vs h1 h2 => exact (VRep.fn f cap vs h1 h2).ren1 hd hσ
 | _ => simp [D.lx, D.lc, D.hc, D.sc, D.pure] at hd
theorem D.hs_lx {d : D RT den} (h : d.hs = true) : d.lx = true := by
 cases d with
 | agg cs =>
  simp only [D.hs, D.lx, List.all_eq_true] at h ⊢
  exact fun c hc => by simp only [D.lc, h c hc, Bool.true_or]
 | tup ds => simp [D.hs, D.hc, D.sc] at h
 | ref o off => rfl
 | _ => simp only [D.hs] at h; simp only [D.lx, D.lc, h, Bool.true_or]
theorem VRep.hc {F F' : Frz} {w w' : World} {β : Bet} {d : D RT den} {v : Value} (h : VRep E F w β d v) (hd : d.hc = true) : VRep E F' w' β d v := by
 cases h with
 | os o len cap b m hb hc hl => exact .os o len cap b m hb hc hl
 | os0 o a' k3 => exact .os0 o a' k3
 | emp z τ a' k1 k2 k3 => exact .emp z τ a' k1 k2 k3
 | int k n => exact .int k n
 | bool b => exact .bool b
 | str b => exact .str b
 | _ => simp [D.hc, D.sc] at hd
theorem VRep.hs {F F' : Frz} {w w' : World} {β : Bet} {d : D RT den} {v : Value} (h : VRep E F w β d v) (hd : d.hs = true) : VRep E F' w' β d v := by
 cases h with
 | agg cs vs h1 h2 =>
  simp only [D.hs, List.all_eq_true] at hd
  exact .agg _ vs h1 (fun j c hc => (h2 j c hc).hc (hd c (List.mem_of_getElem? hc)))
 | os o len cap b m hb hc hl => exact .os o len cap b m hb hc hl
 | os0 o a' k3 => exact .os0 o a' k3
 | emp z τ a' k1 k2 k3 => exact .emp z τ a' k1 k2 k3
 | int k n => exact .int k n
 | bool b => exact .bool b
 | str b => exact .str b
 | _ => simp [D.hs, D.hc, D.sc] at hd
theorem posOf_get : ∀ {l : List Nat} {o : Nat}, o ∈ l → l[posOf l o]? = some o
 | [], o, h => by simp at h
 | x :: l, o, h => by
  simp only [posOf]
  by_cases hx : x = o
  ·subst hx; simp
  ·have : (x == o) = false := by simpa using hx
   rw [this]
   simp only [cond_false, List.getElem?_cons_succ]
   exact posOf_get (by simpa [Ne.symm hx] using h)
theorem nodups_inj : ∀ {l : List Nat}, nodups l = true → ∀ {i j o : Nat}, l[i]? = some o → l[j]? = some o → i = j
 | [], _, i, j, o, hi, _ => by simp at hi
 | x :: l, h, i, j, o, hi, hj => by
  simp only [nodups, Bool.and_eq_true, Bool.not_eq_true', List.elem_eq_mem, decide_eq_false_iff_not] at h
  cases i with
  | zero =>
   cases j with
   | zero => rfl
   | succ j =>
    simp only [List.getElem?_cons_zero, Option.some.injEq, List.getElem?_cons_succ] at hi hj
    subst hi
    exact absurd (List.mem_of_getElem? hj) h.1
  | succ i =>
   cases j with
   | zero =>
    simp only [List.getElem?_cons_zero, Option.some.injEq, List.getElem?_cons_succ] at hi hj
    subst hj
    exact absurd (List.mem_of_getElem? hi) h.1
   | succ j =>
    simp only [List.getElem?_cons_succ] at hi hj
    rw [nodups_inj h.2 hi hj]
theorem lents_get {σ : Nat → Nat} {os : List (Ob RT den)} : ∀ {ids : List Nat} {ins : List (Ob RT den)}, lents σ os ids = some ins → ins.length = ids.length ∧ ∀ (k o : Nat), ids[k]? = some o →
  (∃ l τ n f, os[o]? = some (.row l τ n f) ∧ ins[k]? = some (.row true τ n f)) ∨ (∃ l cs, os[o]? = some (.box l cs) ∧ cs.all D.lc = true ∧ ins[k]? = some (.box true (cs.map (D.ren1 σ))))
 | [], ins, h => by simp only [lents, Option.some.injEq] at h; subst h; simp
 | o :: ids, ins, h => by
  simp only [lents] at h
  split at h
  ·rename_i l τ n f ho
   simp only [Option.bind_eq_some_iff] at h
   obtain ⟨x, hx, h⟩ := h
   have h := Option.some.inj h; subst h
   obtain ⟨h1, h2⟩ := lents_get hx
   refine ⟨by simp [h1], fun k o' hk => ?_⟩
   cases k with
   | zero =>
    simp only [List.getElem?_cons_zero, Option.some.injEq] at hk
    subst hk
    exact .inl ⟨l, τ, n, f, obj_some ho (by simp), rfl⟩
   | succ k => simpa using h2 k o' (by simpa using hk)
  ·rename_i l cs ho
   cases hc : cs.all D.lc with
   | false => rw [hc] at h; cases h
   | true =>
   rw [hc] at h
   simp only [cond_true, Option.bind_eq_some_iff] at h
   obtain ⟨x, hx, h⟩ := h
   have h := Option.some.inj h; subst h
   obtain ⟨h1, h2⟩ := lents_get hx
   refine ⟨by simp [h1], fun k o' hk => ?_⟩
   cases k with
   | zero =>
    simp only [List.getElem?_cons_zero, Option.some.injEq] at hk
    subst hk
    exact .inr ⟨l, cs, obj_some ho (by simp), hc, rfl⟩
   | succ k => simpa using h2 k o' (by simpa using hk)
  ·cases h
theorem backs_get {σ : Nat → Nat} : ∀ {ids : List Nat} {os xs os' : List (Ob RT den)}, nodups ids = true → backs σ os ids xs = some os' → os'.length = os.length ∧ xs.length = ids.length ∧ (∀ o, o ∉ ids → os'[o]? = os[o]?) ∧
  ∀ (k o : Nat), ids[k]? = some o → (∃ l b τ n f τ0 n0 f0, xs[k]? = some (.row l τ n f) ∧ os'[o]? = some (.row b τ n f) ∧ os[o]? = some (.row b τ0 n0 f0)) ∨
   (∃ l b cs cs0, xs[k]? = some (.box l cs) ∧ cs.all D.lc = true ∧ os'[o]? = some (.box b (cs.map (D.ren1 σ))) ∧ os[o]? = some (.box b cs0))
 | [], os, [], os', hn, h => by simp only [backs, Option.some.injEq] at h; subst h; simp
 | [], os, _ :: _, os', hn, h => by simp [backs] at h
 | _ :: _, os, [], os', hn, h => by simp [backs] at h
 | o :: ids, os, x :: xs, os', hn, h => by
  simp only [nodups, Bool.and_eq_true, Bool.not_eq_true', List.elem_eq_mem, decide_eq_false_iff_not] at hn
  have key : ∀ (y z : Ob RT den), os[o]? = some y → backs σ (os.set o z) ids xs = some os' → ((∃ l b τ n f τ0 n0 f0, x = .row l τ n f ∧ z = .row b τ n f ∧ y = .row b τ0 n0 f0) ∨ (∃ l b cs cs0, x = .box l cs ∧ cs.all D.lc = true ∧ z = .box b (cs.map (D.ren1 σ)) ∧ y = .box b cs0)) →
    os'.length = os.length ∧ (x :: xs).length = (o :: ids).length ∧ (∀ o', o' ∉ o :: ids → os'[o']? = os[o']?) ∧
    ∀ (k o' : Nat), (o :: ids)[k]? = some o' → (∃ l b τ n f τ0 n0 f0, (x :: xs)[k]? = some (.row l τ n f) ∧ os'[o']? = some (.row b τ n f) ∧ os[o']? = some (.row b τ0 n0 f0)) ∨
     (∃ l b cs cs0, (x :: xs)[k]? = some (.box l cs) ∧ cs.all D.lc = true ∧ os'[o']? = some (.box b (cs.map (D.ren1 σ))) ∧ os[o']? = some (.box b cs0)) := by
   intro y z hos h hxyz
   have hlt := (List.getElem?_eq_some_iff.1 hos).1
   obtain ⟨h1, h2, h3, h4⟩ := backs_get hn.2 h
   refine ⟨by simpa using h1, by simp [h2], fun o' ho' => ?_, fun k o' hk => ?_⟩
   ·simp only [List.mem_cons, not_or] at ho'
    rw [h3 o' ho'.2, List.getElem?_set_ne (Ne.symm ho'.1)]
   ·cases k with
    | zero =>
     simp only [List.getElem?_cons_zero, Option.some.injEq] at hk
     subst hk
     have ez : os'[o]? = some z := by rw [h3 o hn.1]; simp [hlt]
     rcases hxyz with ⟨l, b, τ, n, f, τ0, n0, f0, e1, e2, e3⟩ | ⟨l, b, cs, cs0, e1, e0, e2, e3⟩
     ·exact .inl ⟨l, b, τ, n, f, τ0, n0, f0, by rw [e1]; rfl, by rw [ez, e2], by rw [hos, e3]⟩
     ·exact .inr ⟨l, b, cs, cs0, by rw [e1]; rfl, e0, by rw [ez, e2], by rw [hos, e3]⟩
    | succ k =>
     simp only [List.getElem?_cons_succ] at hk ⊢
     have hne : o ≠ o' := fun e => by subst e; exact hn.1 (List.mem_of_getElem? hk)
     have := h4 k o' hk
     rw [List.getElem?_set_ne hne] at this
     exact this
  simp only [backs] at h
  split at h
  ·rename_i b τ0 n0 f0 l τ n f ho
   exact key _ _ (obj_some ho (by simp)) h (.inl ⟨l, b, τ, n, f, τ0, n0, f0, rfl, rfl, rfl⟩)
  ·rename_i b cs0 l cs ho
   cases hc : cs.all D.lc with
   | false => rw [hc] at h; cases h
   | true =>
    rw [hc] at h
    exact key _ _ (obj_some ho (by simp)) h (.inr ⟨l, b, cs, cs0, rfl, hc, rfl, rfl⟩)
  ·cases h
def Bet.home (β : Bet) (n p : Nat) (βc : Bet) : Bet := ⟨fun o => if o < n then β o else βc (o - n + p), β.h⟩
theorem Bet.home_r (β : Bet) (n p : Nat) (βc : Bet) (o : Nat) : (β.home n p βc) o = if o < n then β o else βc (o - n + p) := rfl
theorem ORep.ren {F : Frz} {w : World} {β β' : Bet} {σ : Nat → Nat} {b : Nat} {m : Nat × Nat} {ob : Ob RT den} (h : ORep E F w β b m ob) (hc : ∀ l cs, ob = .box l cs → cs.all D.lc = true) (hσ : ∀ o x, β o = some x → β' (σ o) = some x) : ORep E F w β' b m (ob.ren σ) := by
 cases ob with
 | box l cs =>
  obtain ⟨cur, e, hh, hs, hr⟩ := h
  refine ⟨cur, e, hh, by simpa using hs, fun j c hcj => ?_⟩
  rw [List.getElem?_map] at hcj
  cases hq : cs[j]? with
  | none => rw [hq] at hcj; cases hcj
  | some c0 =>
   rw [hq] at hcj
   simp only [Option.map_some, Option.some.injEq] at hcj
   subst hcj
   have := hc l cs rfl
   rw [List.all_eq_true] at this
   exact (hr j c0 hq).ren1 (D.lc_lr (this c0 (List.mem_of_getElem? hq))) (fun o _ x hx => hσ o x hx)
 | row l τ n f => exact h
 | deep => trivial
 | gone => trivial
theorem Rel.back {F0 : Was} {w0 : World} {F F' : Frz} {β βc : Bet} {s : St RT den} {a : Act} {w w' : World} (h : Rel E F0 w0 F β s a w) {ids : List Nat} (hnd : nodups ids = true) (hb : Keep (fun b => ∃ (k : Nat) (m : Nat × Nat), (ids[k]?).bind β = some (b, m)) w.heap.size w w')
  (h1 : ∀ b o, F b o → F' b o) (h2 : ∀ b o, F' b o → F b o ∨ w.heap.size ≤ b) (h3 : ∀ b o, F' b o → b < w'.heap.size) {outs os' : List (Ob RT den)} (hlen : ids.length ≤ outs.length)
  (hos : backs (homeOf ids s.objs.length) s.objs ids (outs.take ids.length) = some os') (hokn : (outs.drop ids.length).all Ob.okN = true)
  (hobj : ∀ o ob, outs[o]? = some ob → ∀ b m, βc o = some (b, m) → ORep E F' w' βc b m ob) (hkeep : ∀ k, k < ids.length → βc k = (ids[k]?).bind β)
  (hnames : ∀ o b m, βc o = some (b, m) → b < w'.heap.size ∧ (∀ off, ¬ F' b off) ∧ o < outs.length ∧ (w.heap.size ≤ b ∨ ∃ m', (ids[o]?).bind β = some (b, m')))
  (hinj : ∀ o o' b m m', βc o = some (b, m) → βc o' = some (b, m') → o = o') :
  Rel E F0 w0 F' (β.home s.objs.length ids.length βc) { s with objs := os' ++ (outs.drop ids.length).map (Ob.ren (homeOf ids s.objs.length)) } a w' ∧ (∀ k x, βc k = some x → β.home s.objs.length ids.length βc (homeOf ids s.objs.length k) = some x) ∧ os'.length = s.objs.length ∧ (∀ o, o ∉ ids → os'[o]? = s.objs[o]?) := by
 obtain ⟨ba1, ba2, ba3, ba4⟩ := backs_get hnd hos
 have hk : Keeps F w w' := fun b o u hf hc => by
  have hbl : w'.heap[b]? = w.heap[b]? := hb.block b (h.frz b o hf) (fun ⟨k, m, hlb⟩ => by
   simp only [Option.bind_eq_some_iff] at hlb
   obtain ⟨o', _, hb'⟩ := hlb
   exact (h.names o' b m hb').2.2.1 o hf)
  unfold World.cell? at hc ⊢
  simp only [at'] at hc ⊢
  rw [hbl]; exact hc
 have hle : β.le (β.home s.objs.length ids.length βc) := ⟨fun o x hx => by
  rw [Bet.home_r]
  rw [if_pos (h.names o x.1 x.2 hx).2.2.2]; exact hx, fun _ _ _ h => h⟩
 have hhome : ∀ k x, βc k = some x → β.home s.objs.length ids.length βc (homeOf ids s.objs.length k) = some x := by
  intro k x hx
  by_cases hkp : k < ids.length
  ·have hq := hkeep k hkp
   rw [hx] at hq
   have hq := hq.symm
   simp only [Option.bind_eq_some_iff] at hq
   obtain ⟨o, ho, hbo⟩ := hq
   have e : homeOf ids s.objs.length k = o := by
    unfold homeOf
    rw [decide_eq_true hkp]
    simp [List.getD_eq_getElem?_getD, ho]
   rw [e]
   exact hle.1 o x hbo
  ·unfold homeOf
   rw [decide_eq_false hkp]
   simp only [cond_false]
   rw [Bet.home_r]
   rw [if_neg (by omega), show s.objs.length + (k - ids.length) - s.objs.length + ids.length = k by omega]
   exact hx
 have hnew : ∀ o b m, ids.length ≤ o → βc o = some (b, m) → w.heap.size ≤ b := fun o b m ho hx => by
  rcases (hnames o b m hx).2.2.2 with h9 | ⟨m', h9⟩
  ·exact h9
  ·rw [List.getElem?_eq_none ho] at h9; cases h9
 refine ⟨⟨h.defers, h.size, fun i d hd => (h.slots i d hd).mono h1 hk hle, fun o ob ho b m hβ => ?_, fun o b m hβ => ?_, fun o o' b m m' hβ hβ' => ?_, h.below.trans ⟨hb.os, hb.tape, hb.output, hb.size, fun k hk0 hno => hb.block k (Nat.lt_of_lt_of_le hk0 h.below.size) (fun hlk => ?_)⟩, h3, fun b o hf => h1 b o (h.frz1 b o hf), fun b o hf => (h2 b o hf).elim (h.frz2 b o) (fun hge => .inr (.inl (Nat.le_trans h.below.size hge))), fun o ho => ?_, h.placeH, ?_, h.tab⟩, hhome, ba1, ba3⟩
 rotate_right
 ·have nodg : ∀ (k o : Nat), ids[k]? = some o → ∀ ob, s.objs[o]? = some ob → ob.dg = false := fun k o hk ob ho => by
   rcases ba4 k o hk with ⟨l, b', τ, n, g, τ0, n0, g0, e1, e2, e3⟩ | ⟨l, b', cs, cs0, e1, e0, e2, e3⟩ <;> (rw [e3] at ho; cases ho; rfl)
  have hun : ∀ b, b < w.heap.size → (∀ (k o : Nat) m, ids[k]? = some o → β o ≠ some (b, m)) → w'.heap[b]? = w.heap[b]? := fun b hlt hno => hb.block b hlt (fun ⟨k, m, hlk⟩ => by
   simp only [Option.bind_eq_some_iff] at hlk
   obtain ⟨o, ho, hbo⟩ := hlk
   exact hno k o m ho hbo)
  refine h.hid.step (fun _ h => h) h1 (fun b o hf => (h2 b o hf).elim .inl (fun hge => .inr (h.hid.off_new hge))) hk hb.size rfl (fun o b m hβ => ?_) (fun o ob ho hd => ?_) (fun o l τ n p f ho b m hβ => ?_) (fun o q b m hq => hun b (h.hid.names o q b m hq).1 (fun k o' m' hk hbo => ?_)) (by simp; omega) (fun o y l τ n p f _ hy => ⟨y, hle.1 o y hy⟩)
  ·rw [Bet.home_r] at hβ
   split at hβ
   ·exact .inl ⟨m, hβ⟩
   ·exact .inr (h.hid.off_new (hnew _ b m (by omega) hβ))
  ·have hlt := (List.getElem?_eq_some_iff.1 ho).1
   show (os' ++ (outs.drop ids.length).map (Ob.ren (homeOf ids s.objs.length)))[o]? = _
   rw [List.getElem?_append_left (by omega), ba3 o (fun hi => by
    obtain ⟨k, hk⟩ := List.mem_iff_getElem?.1 hi
    rw [nodg k o hk ob ho] at hd; cases hd)]
   exact ho
  ·have ho : (os' ++ (outs.drop ids.length).map (Ob.ren (homeOf ids s.objs.length)))[o]? = some (.deep l τ n p f) := ho
   by_cases hlt : o < s.objs.length
   ·rw [List.getElem?_append_left (by omega)] at ho
    rw [Bet.home_r, if_pos hlt] at hβ
    have hni : o ∉ ids := fun hi => by
     obtain ⟨k, hk⟩ := List.mem_iff_getElem?.1 hi
     rcases ba4 k o hk with ⟨l', b', τ', n', g, τ0, n0, g0, e1, e2, e3⟩ | ⟨l', b', cs, cs0, e1, e0, e2, e3⟩ <;> (rw [e2] at ho; cases ho)
    rw [ba3 o hni] at ho
    exact ⟨ho, hβ, hun b (h.names o b m hβ).2.1 (fun k o' m' hk hbo => hni (by
     have := h.inj o o' b m m' hβ hbo
     subst this
     exact List.mem_of_getElem? hk))⟩
   ·exfalso
    rw [List.getElem?_append_right (by omega), ba1, List.getElem?_map] at ho
    cases hq : (outs.drop ids.length)[o - s.objs.length]? with
    | none => rw [hq] at ho; cases ho
    | some ob0 =>
     rw [hq] at ho
     have ho := Option.some.inj ho
     rw [List.all_eq_true] at hokn
     have hok := hokn ob0 (List.mem_of_getElem? hq)
     cases ob0 <;> first | (simp [Ob.okN] at hok; done) | (cases ho; done)
  ·have := h.hid.real o q b m o' m' hq hbo
   have := nodg k o' hk _ this
   cases this
 ·replace ho : (os' ++ (outs.drop ids.length).map (Ob.ren (homeOf ids s.objs.length)))[o]? = some ob := ho
  by_cases hlt : o < s.objs.length
  ·rw [List.getElem?_append_left (by omega)] at ho
   rw [Bet.home_r] at hβ
   rw [if_pos hlt] at hβ
   by_cases hi : o ∈ ids
   ·obtain ⟨k, hk⟩ := List.mem_iff_getElem?.1 hi
    have hkp := (List.getElem?_eq_some_iff.1 hk).1
    have hbk : βc k = some (b, m) := by rw [hkeep k hkp, hk]; exact hβ
    rcases ba4 k o hk with ⟨l, b', τ, n, g, τ0, n0, g0, e1, e2, e3⟩ | ⟨l, b', cs, cs0, e1, e0, e2, e3⟩
    ·rw [e2] at ho
     cases ho
     rw [List.getElem?_take, if_pos hkp] at e1
     exact hobj k _ e1 b m hbk
    ·rw [e2] at ho
     cases ho
     rw [List.getElem?_take, if_pos hkp] at e1
     exact (hobj k _ e1 b m hbk).ren (fun l' cs' e => by cases e; exact e0) hhome
   ·rw [ba3 o hi] at ho
    refine (h.objs o ob ho b m hβ).mono h1 hk (hb.block b (h.names o b m hβ).2.1 (fun ⟨k, m', hlb⟩ => ?_)) hle
    simp only [Option.bind_eq_some_iff] at hlb
    obtain ⟨o', hi', hb'⟩ := hlb
    have := h.inj o o' b m m' hβ hb'
    subst this
    exact hi (List.mem_of_getElem? hi')
  ·rw [List.getElem?_append_right (by omega), ba1, List.getElem?_map] at ho
   rw [Bet.home_r] at hβ
   rw [if_neg hlt] at hβ
   cases hq : (outs.drop ids.length)[o - s.objs.length]? with
   | none => rw [hq] at ho; cases ho
   | some ob0 =>
    rw [hq] at ho
    have ho := Option.some.inj ho; subst ho
    rw [List.all_eq_true] at hokn
    have hok := hokn ob0 (List.mem_of_getElem? hq)
    rw [List.getElem?_drop, Nat.add_comm] at hq
    refine (hobj _ ob0 hq b m hβ).ren (fun l cs e => ?_) hhome
    subst e
    cases l with
    | true => cases hok
    | false => exact hok
 ·rw [Bet.home_r] at hβ
  by_cases hlt : o < s.objs.length
  ·rw [if_pos hlt] at hβ
   obtain ⟨n1, n2, n3, n4⟩ := h.names o b m hβ
   exact ⟨n1, Nat.lt_of_lt_of_le n2 hb.size, fun off hf => (h2 b off hf).elim (n3 off) (by omega), by simp; omega⟩
  ·rw [if_neg hlt] at hβ
   obtain ⟨n1, n2, n3, n4⟩ := hnames _ b m hβ
   have := hnew _ b m (by omega) hβ
   exact ⟨.inl (Nat.le_trans h.below.size this), n1, n2, by simp; omega⟩
 ·rw [Bet.home_r] at hβ hβ'
  by_cases e1 : o < s.objs.length <;> by_cases e2 : o' < s.objs.length
  ·rw [if_pos e1] at hβ; rw [if_pos e2] at hβ'
   exact h.inj o o' b m m' hβ hβ'
  ·rw [if_pos e1] at hβ; rw [if_neg e2] at hβ'
   have := hnew _ b m' (by omega) hβ'
   have := (h.names o b m hβ).2.1
   omega
  ·rw [if_neg e1] at hβ; rw [if_pos e2] at hβ'
   have := hnew _ b m (by omega) hβ
   have := (h.names o' b m' hβ').2.1
   omega
  ·rw [if_neg e1] at hβ; rw [if_neg e2] at hβ'
   have := hinj _ _ b m m' hβ hβ'
   omega
 ·obtain ⟨k', m, hlk⟩ := hlk
  simp only [Option.bind_eq_some_iff] at hlk
  obtain ⟨o, _, hb'⟩ := hlk
  rcases (h.names o k m hb').1 with h9 | h9
  ·omega
  ·exact hno h9
 ·obtain ⟨p1, ob, p2, p3⟩ := h.place o ho
  have hlt := (List.getElem?_eq_some_iff.1 p2).1
  refine ⟨by rw [Bet.home_r]; rw [if_pos hlt]; exact p1, ?_⟩
  show ∃ ob', (os' ++ (outs.drop ids.length).map (Ob.ren (homeOf ids s.objs.length)))[o]? = some ob' ∧ ob'.isLent = true
  rw [List.getElem?_append_left (by omega)]
  by_cases hi : o ∈ ids
  ·obtain ⟨k, hk⟩ := List.mem_iff_getElem?.1 hi
   rcases ba4 k o hk with ⟨l, b', τ, n, g, τ0, n0, g0, e1, e2, e3⟩ | ⟨l, b', cs, cs0, e1, e0, e2, e3⟩ <;> (rw [p2] at e3; cases e3; exact ⟨_, e2, p3⟩)
  ·exact ⟨ob, by rw [ba3 o hi]; exact p2, p3⟩
def Bet.join (β : Bet) (n : Nat) (β' : Bet) : Bet := ⟨fun o => if o < n then β o else β' (o - n), β.h⟩
theorem Bet.join_r (β : Bet) (n : Nat) (β' : Bet) (o : Nat) : (β.join n β') o = if o < n then β o else β' (o - n) := rfl
theorem Rel.join (hE : Ok E P) {F0 : Was} {w0 : World} {F F' : Frz} {β βc : Bet} {s : St RT den} {a : Act} {w : World} {outs : List (Ob RT den)} (h : Rel E F0 w0 F β s a w) (hflat : outs.all (Ob.flat E) = true)
  (hobj : ∀ o ob, outs[o]? = some ob → ∀ b m, βc o = some (b, m) → ORep E F' w βc b m ob) (hnames : ∀ o b m, βc o = some (b, m) → b < w.heap.size ∧ (∀ off, ¬ F b off) ∧ o < outs.length ∧ w0.heap.size ≤ b ∧ ∀ i m', β i ≠ some (b, m'))
  (hoff : ∀ o b m, βc o = some (b, m) → β.off b) (hinj : ∀ o o' b m m', βc o = some (b, m) → βc o' = some (b, m') → o = o') : Rel E F0 w0 F (β.join s.objs.length βc) { s with objs := s.objs ++ outs } a w := by
 have hle : β.le (β.join s.objs.length βc) := ⟨fun o x hx => by
  rw [Bet.join_r]
  rw [if_pos (h.names o x.1 x.2 hx).2.2.2]; exact hx, fun _ _ _ h => h⟩
 refine ⟨h.defers, h.size, fun i d hd => (h.slots i d hd).mono (fun _ _ h => h) (Keeps.refl _ _) hle, fun o ob ho b m hb => ?_, fun o b m hb => ?_, fun o o' b m m' hb hb' => ?_, h.below, h.frz, h.frz1, h.frz2, fun o ho => ?_, h.placeH, ?_, h.tab⟩
 rotate_right
 ·refine h.hid.step (fun _ h => h) (fun _ _ h => h) (fun _ _ h => .inl h) (Keeps.refl _ _) (Nat.le_refl _) rfl (fun o b m hb => ?_) (fun o ob ho _ => ?_) (fun o l τ n p f ho b m hb => ?_) (fun _ _ _ _ _ => rfl) (by simp) (fun o y l τ n p f _ hy => ⟨y, hle.1 o y hy⟩)
  ·rw [Bet.join_r] at hb
   split at hb
   ·exact .inl ⟨m, hb⟩
   ·exact .inr (hoff _ b m hb)
  ·show (s.objs ++ outs)[o]? = _
   rw [List.getElem?_append_left (List.getElem?_eq_some_iff.1 ho).1]; exact ho
  ·have ho : (s.objs ++ outs)[o]? = some (.deep l τ n p f) := ho
   by_cases hlt : o < s.objs.length
   ·rw [List.getElem?_append_left hlt] at ho
    rw [Bet.join_r, if_pos hlt] at hb
    exact ⟨ho, hb, rfl⟩
   ·exfalso
    rw [List.getElem?_append_right (by omega)] at ho
    rw [List.all_eq_true] at hflat
    have := hflat _ (List.mem_of_getElem? ho)
    cases this
 ·rw [Bet.join_r] at hb
  by_cases hlt : o < s.objs.length
  ·rw [if_pos hlt] at hb
   rw [show ({ s with objs := s.objs ++ outs } : St RT den).objs = s.objs ++ outs from rfl, List.getElem?_append_left hlt] at ho
   exact (h.objs o ob ho b m hb).mono (fun _ _ h => h) (Keeps.refl _ _) rfl hle
  ·rw [if_neg hlt] at hb
   rw [show ({ s with objs := s.objs ++ outs } : St RT den).objs = s.objs ++ outs from rfl, List.getElem?_append_right (by omega)] at ho
   have hf := hflat
   rw [List.all_eq_true] at hf
   have hq := hf ob (List.mem_of_getElem? ho)
   cases ob with
   | box cs => simp [Ob.flat] at hq
   | deep => simp [Ob.flat] at hq
   | gone => simp [Ob.flat] at hq
   | row l τ n f =>
    cases l with
    | true => simp [Ob.flat] at hq
    | false =>
     obtain ⟨hm, hm1, cur, e, hh, hs, hr⟩ := hobj _ _ ho b m hb
     have hsc := hE.scl τ hq
     refine ⟨hm, hm1, cur, e, hh, hs, fun i j c hi hc => (hr i j c hi hc).sce ?_⟩
     have := hsc (f i)
     rw [List.all_eq_true] at this
     exact this c (List.mem_of_getElem? hc)
 ·rw [Bet.join_r] at hb
  by_cases hlt : o < s.objs.length
  ·rw [if_pos hlt] at hb
   obtain ⟨n1, n2, n3, n4⟩ := h.names o b m hb
   exact ⟨n1, n2, n3, by simp; omega⟩
  ·rw [if_neg hlt] at hb
   obtain ⟨n1, n2, n3, n4, n5⟩ := hnames _ b m hb
   exact ⟨.inl n4, n1, n2, by simp; omega⟩
 ·rw [Bet.join_r] at hb hb'
  by_cases h1 : o < s.objs.length <;> by_cases h2 : o' < s.objs.length
  ·rw [if_pos h1] at hb; rw [if_pos h2] at hb'
   exact h.inj o o' b m m' hb hb'
  ·rw [if_pos h1] at hb; rw [if_neg h2] at hb'
   exact absurd hb ((hnames _ b m' hb').2.2.2.2 o m)
  ·rw [if_neg h1] at hb; rw [if_pos h2] at hb'
   exact absurd hb' ((hnames _ b m hb).2.2.2.2 o' m')
  ·rw [if_neg h1] at hb; rw [if_neg h2] at hb'
   have := hinj _ _ b m m' hb hb'
   omega
 ·obtain ⟨h4, ob, h5, h6⟩ := h.place o ho
  have hlt := (List.getElem?_eq_some_iff.1 h5).1
  exact ⟨by rw [Bet.join_r]; rw [if_pos hlt]; exact h4, ob, by show (s.objs ++ outs)[o]? = _; rw [List.getElem?_append_left hlt]; exact h5, h6⟩
theorem Hid.off_of {ok : Nat → Prop} {F : Frz} {β : Bet} {os : List (Ob RT den)} {w : World} (h : Hid E ok F β os w) {b : Nat} (hb : ∀ i q m, β.h i q = some (b, m) → False) : β.off b := fun i q m hi => hb i q m hi
theorem hid_none (ok : Nat → Prop) (F : Frz) (w : World) : Hid E ok F noBet [] w :=
 ⟨fun _ _ _ _ h => (by cases h), fun _ _ _ _ h => (by cases h), fun _ _ _ _ _ _ h => (by cases h), fun _ _ _ _ _ _ _ h => (by cases h), fun _ _ _ h => (by cases h), fun _ _ _ _ _ _ h => (by simp at h)⟩
theorem callD_wp (hE : Ok E P) {pc : Pr RT den} (hpc : PrOk E P pc) {F0 : Was} {w0 : World} {F : Frz} {β : Bet} {s : St RT den} {a : Act} {w : World} (h : Rel E F0 w0 F β s a w)
  {f : Nat} {ds : List (D RT den)} {vs : Array Value} {r : D RT den} {os' : List (Ob RT den)} (hgv : pc.gv f = false) (hdp : pc.dp f = true) (hl : ds.length = vs.size) (hds : ∀ i x, ds[i]? = some x → VRep E F w β x (vs.getD i Go.undef)) (hv : callD E pc s.objs f ds = some (r, os')) :
  (∃ fn, P.funcs[f]? = some fn ∧ fn.body.isNone = false ∧ (fn.name == "runtime.NumGoroutine") = false) ∧
  Calls P f vs w (fun e w' => ∃ v F' β', e = .returned v ∧ Rel E F0 w0 F' β' { s with objs := os' } a w' ∧ VRep E F' w' β' r v ∧ s.objs.length ≤ os'.length ∧
   ∀ i, i < s.objs.length → β i = none → (∃ cs, s.objs[i]? = some (.box false cs) ∧ cs.all D.pure = true) → β' i = none ∧ os'[i]? = s.objs[i]?) := by simp [callD, argsD] at hv
theorem callX_wp (hE : Ok E P) {pc : Pr RT den} (hpc : PrOk E P pc) {F0 : Was} {w0 : World} {F : Frz} {β : Bet} {s : St RT den} {a : Act} {w : World} (h : Rel E F0 w0 F β s a w)
  {f : Nat} {ds : List (D RT den)} {vs : Array Value} {r : D RT den} {os' : List (Ob RT den)} (hl : ds.length = vs.size) (hds : ∀ i x, ds[i]? = some x → VRep E F w β x (vs.getD i Go.undef)) (hv : callX E pc s.objs f ds = some (r, os')) :
  (∃ fn, P.funcs[f]? = some fn ∧ fn.body.isNone = false ∧ (fn.name == "runtime.NumGoroutine") = false) ∧
  Calls P f vs w (fun e w' => ∃ v F' β', e = .returned v ∧ Rel E F0 w0 F' β' { s with objs := os' } a w' ∧ VRep E F' w' β' r v ∧ s.objs.length ≤ os'.length ∧
   ∀ i, i < s.objs.length → β i = none → (∃ cs, s.objs[i]? = some (.box false cs) ∧ cs.all D.pure = true) → β' i = none ∧ os'[i]? = s.objs[i]?) := by
 cases hgv : pc.gv f with
 | true => simp only [callX, hgv, cond_true] at hv; cases hv
 | false =>
 cases hdp : pc.dp f with
 | true =>
  simp only [callX, hgv, hdp, cond_true, cond_false] at hv
  exact callD_wp hE hpc h hgv hdp hl hds hv
 | false =>
 simp only [callX, hgv, hdp, cond_false] at hv
 cases hpl : (pc.pl f && !plOk2 (pc.lend f) s.objs ds) with
 | true => rw [hpl] at hv; cases hv
 | false =>
 rw [hpl] at hv
 simp only [cond_false, Option.bind_eq_some_iff] at hv
 obtain ⟨⟨ys, ins, ids⟩, hy, x, hx, hv⟩ := hv
 have hg := hpc.fx f ys ins x hgv hdp hx
 refine ⟨hg.fn, ?_⟩
 cases hln : pc.lend f with
 | true =>
  rw [hln] at hy hv
  simp only [argsX] at hy
  generalize hids : lentIds s.objs ds = ids0 at hy
  cases hq : lendOk s.objs ds ids0 with
  | false => rw [hq] at hy; cases hy
  | true =>
   rw [hq] at hy
   simp only [cond_true, Option.bind_eq_some_iff, Option.some.injEq, Prod.mk.injEq] at hy
   obtain ⟨ins', hins, rfl, rfl, hie⟩ := hy
   have hie := hie.symm
   subst hie
   simp only [lendOk, Bool.and_eq_true] at hq
   obtain ⟨hnd, hhs, hwi, hbx⟩ := hq
   rw [List.all_eq_true] at hhs hwi hbx
   simp only [backX] at hv
   cases hsc : x.1.lx && (x.2.drop ids.length).all Ob.okN with
   | false => rw [hsc] at hv; cases hv
   | true =>
    rw [hsc] at hv
    simp only [cond_true, Option.bind_eq_some_iff, Option.some.injEq, Prod.mk.injEq] at hv
    simp only [Bool.and_eq_true] at hsc
    obtain ⟨os1, hos, rfl, rfl⟩ := hv
    obtain ⟨li1, li2⟩ := lents_get hins
    let βc : Bet := ⟨fun k => (ids[k]?).bind β, fun _ _ => none⟩
    have hβc : ∀ {k : Nat} {b : Nat} {m : Nat × Nat}, βc k = some (b, m) → ∃ o, ids[k]? = some o ∧ β o = some (b, m) := fun {k b m} hk => by
     simp only [βc, Option.bind_eq_some_iff] at hk; exact hk
    have hpos : ∀ {o : Nat} {z}, o ∈ ids → β o = some z → βc (posOf ids o) = some z := fun {o z} ho hz => by
     simp only [βc, posOf_get ho, Option.bind_some]
     exact hz
    refine (hg.calls F w βc vs h.low (by simpa using hl) ?_ ?_ ?_ ?_ (fun _ _ => rfl) ?_).mono ?_
    ·intro i y hy
     rw [List.getElem?_map] at hy
     cases hd : ds[i]? with
     | none => rw [hd] at hy; cases hy
     | some d =>
      rw [hd] at hy
      simp only [Option.map_some, Option.some.injEq] at hy
      subst hy
      refine (hds i d hd).ren (hhs d (List.mem_of_getElem? hd)) (fun o ho z hz => hpos ?_ hz)
      have := hwi d (List.mem_of_getElem? hd)
      simp only [D.within, List.all_eq_true] at this
      exact List.elem_iff.1 (this o ho)
    ·intro k ob hob b m hb
     obtain ⟨o, ho, hbo⟩ := hβc hb
     rcases li2 k o ho with ⟨l, τ, n, g, e1, e2⟩ | ⟨l, cs, e1, e0, e2⟩
     ·rw [e2] at hob
      cases hob
      exact h.objs o _ e1 b m hbo
     ·rw [e2] at hob
      cases hob
      obtain ⟨cur, e, hh, hs, hr⟩ := h.objs o _ e1 b m hbo
      refine ⟨cur, e, hh, by simpa using hs, fun j c hcj => ?_⟩
      rw [List.getElem?_map] at hcj
      cases hqj : cs[j]? with
      | none => rw [hqj] at hcj; cases hcj
      | some c0 =>
       rw [hqj] at hcj
       simp only [Option.map_some, Option.some.injEq] at hcj
       subst hcj
       rw [List.all_eq_true] at e0
       refine (hr j c0 hqj).ren1 (D.lc_lr (e0 c0 (List.mem_of_getElem? hqj))) (fun o' ho' z hz => hpos ?_ hz)
       have := hbx o (List.mem_of_getElem? ho)
       have eo : obj s.objs o = .box l cs := by unfold obj; rw [List.getD_eq_getElem?_getD, e1]; rfl
       rw [eo] at this
       simp only [Bool.and_eq_true, List.all_eq_true] at this
       exact List.elem_iff.1 (this.1 c0 (List.mem_of_getElem? hqj) o' ho')
    ·intro k b m hb
     obtain ⟨o, ho, hbo⟩ := hβc hb
     obtain ⟨n1, n2, n3, n4⟩ := h.names o b m hbo
     exact ⟨n2, n3, by rw [li1]; exact (List.getElem?_eq_some_iff.1 ho).1⟩
    ·intro k k' b m m' hb hb'
     obtain ⟨o, ho, hbo⟩ := hβc hb
     obtain ⟨o', ho', hbo'⟩ := hβc hb'
     have := h.inj o o' b m m' hbo hbo'
     subst this
     exact nodups_inj hnd ho ho'
    ·intro k ob hob
     have hk := (List.getElem?_eq_some_iff.1 hob).1
     obtain ⟨o, ho⟩ : ∃ o, ids[k]? = some o := ⟨_, List.getElem?_eq_getElem (by omega)⟩
     rcases li2 k o ho with ⟨l, τ, n, g, e1, e2⟩ | ⟨l, cs, e1, e0, e2⟩ <;> (rw [e2] at hob; cases hob; rfl)
    ·rintro e w' ⟨v, F', β', rfl, k1, k2, k3, k4, k5, k6, k7, k8, k9, _⟩
     have hlen := hg.len
     rw [li1] at hlen k7
     obtain ⟨r1, r2, r3, r4⟩ := h.back hnd k1 k2 k3 k4 hlen hos hsc.2 k6 k7 k8 k9
     refine ⟨v, F', _, rfl, r1, k5.ren hsc.1 (fun o _ z hz => r2 o z hz), by simp; omega, fun i hi hn ⟨cs, hbox, _⟩ => ?_⟩
     have hni : i ∉ ids := fun hm => by
      have := hbx i hm
      have eo : obj s.objs i = .box false cs := by unfold obj; rw [List.getD_eq_getElem?_getD, hbox]; rfl
      rw [eo] at this
      simp only [Bool.and_eq_true, List.any_eq_true] at this
      obtain ⟨_, d, hd, hr⟩ := this
      cases d with
      | ref o' off =>
       simp only [D.refTo] at hr
       have := Nat.eq_of_beq_eq_true hr
       subst this
       obtain ⟨j, hj⟩ := List.mem_iff_getElem?.1 hd
       have := hds j _ hj
       generalize vs.getD j Go.undef = v at this
       cases this with
       | ref _ _ b m hb => rw [hn] at hb; cases hb
      | _ => simp [D.refTo] at hr
     exact ⟨by rw [Bet.home_r]; rw [if_pos hi]; exact hn, by rw [List.getElem?_append_left (by omega)]; exact r4 i hni⟩
 | false =>
  rw [hln] at hy hv
  simp only [argsX, Option.bind_eq_some_iff, Option.some.injEq, Prod.mk.injEq] at hy
  obtain ⟨ys', hys, rfl, rfl, rfl⟩ := hy
  simp only [backX] at hv
  cases hq : x.1.hs && x.2.all (Ob.flat E) with
  | false => rw [hq] at hv; cases hv
  | true =>
   rw [hq] at hv
   simp only [cond_true, Option.some.injEq, Prod.mk.injEq] at hv
   obtain ⟨rfl, rfl⟩ := hv
   simp only [Bool.and_eq_true] at hq
   obtain ⟨hhs, hfl⟩ := hq
   obtain ⟨l1, l2⟩ := snaps_get hys
   refine (hg.calls (fun b o => F b o ∨ β.has b) w noBet vs ?_ (by omega) ?_ (fun o ob ho => by simp at ho) (fun o b m hb => by cases hb) (fun o o' b m m' hb => by cases hb) (fun _ _ => rfl) (fun o ob ho => by simp at ho)).mono ?_
   ·refine h.low.or (fun b o => .inl) ?_
    rintro b o (hF | ⟨i, m, hi⟩ | ⟨i, p, m, hi⟩)
    ·exact h.frz b o hF
    ·exact (h.names i b m hi).2.1
    ·exact (h.hid.names i p b m hi).1
   ·intro i y hy
    obtain ⟨d, hd, hs⟩ := l2 i y hy
    exact snap_rep hE h (fun _ _ => .inl) (hds i d hd) hs (fun _ b off hb => .inr hb)
   ·rintro e w' ⟨v, F', β', rfl, k1, k2, k3, k4, k5, k6, k7, k8, k9, _⟩
    have hbel : Below w.heap.size w w' := ⟨k1.os, k1.tape, k1.output, k1.size, fun j hj => k1.block j hj (fun ⟨o, m, hb⟩ => by cases hb)⟩
    have hgr := h.grow hbel (F' := F) (fun _ _ h => h) (fun _ _ h => .inl h) (fun b o hf => Nat.lt_of_lt_of_le (h.frz b o hf) hbel.size)
    have hnew : ∀ o b m, β' o = some (b, m) → w.heap.size ≤ b := fun o b m hb => by
     rcases (k8 o b m hb).2.2.2 with h9 | ⟨m', h9⟩
     ·exact h9
     ·cases h9
    refine ⟨v, F, β.join s.objs.length β', rfl, hgr.join hE hfl k6 (fun o b m hb => ?_) (fun o b m hb => hgr.hid.off_of (fun i q m' hi => by have := (h.hid.names i q b m' hi).1; have := hnew o b m hb; omega)) k9, ?_, by simp, fun i hi hn _ => ⟨?_, by rw [List.getElem?_append_left hi]⟩⟩
    ·have hge := hnew o b m hb
     exact ⟨(k8 o b m hb).1, fun off hf => by have := h.frz b off hf; omega, (k8 o b m hb).2.2.1, Nat.le_trans h.below.size hge, fun i m' hi => by have := (h.names i b m' hi).2.1; omega⟩
    ·refine (k5.hs hhs).ren (D.hs_lx hhs) (fun o ho z hz => ?_)
     rw [Bet.join_r]
     rw [if_neg (by omega), Nat.add_sub_cancel]
     exact hz
    ·rw [Bet.join_r]
     rw [if_pos hi]; exact hn
theorem D.sc_pure {d : D RT den} (h : d.sc = true) : d.pure = true := by cases d <;> first | rfl | (cases h; done)
theorem callG_wp (hE : Ok E P) {pc : Pr RT den} (hpc : PrOk E P pc) {F0 : Was} {w0 : World} {F : Frz} {β : Bet} {s : St RT den} {a : Act} {w : World} (h : Rel E F0 w0 F β s a w)
  {f : Nat} {ds : List (D RT den)} {vs : Array Value} {y1 : Option Nat} {r : D RT den} {os' : List (Ob RT den)} (hl : ds.length = vs.size) (hds : ∀ i x, ds[i]? = some x → VRep E F w β x (vs.getD i Go.undef)) (hv : callG E pc s.objs f ds = some (y1, r, os')) :
  (∃ fn, P.funcs[f]? = some fn ∧ fn.body.isNone = false ∧ (fn.name == "runtime.NumGoroutine") = false) ∧
  Calls P f vs w (fun e w' => ∃ v F' β', e = .returned v ∧ Rel E F0 w0 F' β' (({ s with objs := os' } : St RT den).kill y1) a w' ∧ VRep E F' w' β' r v ∧ s.objs.length ≤ os'.length ∧
   ∀ i, i < s.objs.length → β i = none → (∃ cs, s.objs[i]? = some (.box false cs) ∧ cs.all D.pure = true) → β' i = none ∧ os'[i]? = s.objs[i]?) := by
 cases hgv : pc.gv f with
 | false => simp only [callG, hgv, cond_false] at hv; cases hv
 | true =>
 simp only [callG, hgv, cond_true, Option.bind_eq_some_iff, Option.some.injEq, Prod.mk.injEq] at hv
 obtain ⟨⟨v1, ys, ins⟩, hy, x, hx, ⟨r1, os1⟩, hb, rfl, rfl, rfl⟩ := hv
 have hg := hpc.fg f ys ins x hgv hx
 refine ⟨hg.fn, ?_⟩
 dsimp only at hx hb hg
 obtain ⟨x1, x2⟩ := x
 unfold backG at hb
 split at hb
 rotate_left
 ·cases hb
 rename_i len' τ' n' g' hxe
 simp only [Prod.mk.injEq] at hxe
 obtain ⟨rfl, rfl⟩ := hxe
 cases hscl : E.scl τ' with
 | false => rw [hscl] at hb; cases hb
 | true =>
 rw [hscl] at hb
 simp only [cond_true] at hb
 unfold argG at hy
 split at hy
 ·
  rename_i o len rest
  cases hq : rest.all D.sc && clearS o s.objs with
  | false => rw [hq] at hy; cases hy
  | true =>
  rw [hq] at hy
  simp only [Bool.and_eq_true] at hq
  obtain ⟨hsc, hcl⟩ := hq
  simp only [cond_true] at hy
  split at hy
  rotate_left
  ·cases hy
  rename_i τ n g hob
  simp only [Option.some.injEq, Prod.mk.injEq] at hy
  obtain ⟨rfl, rfl, rfl⟩ := hy
  have hb := Option.some.inj hb
  simp only [Prod.mk.injEq] at hb
  obtain ⟨rfl, rfl⟩ := hb
  have hoo := obj_some hob (by simp)
  have ho : o < s.objs.length := (List.getElem?_eq_some_iff.1 hoo).1
  let βc : Bet := ⟨fun k => if k = 0 then β o else none, fun _ _ => none⟩
  have hβ0 : βc 0 = β o := rfl
  have hβc : ∀ {k : Nat} {x}, βc k = some x → k = 0 ∧ β o = some x := fun {k x} hk => by
   have hk : (if k = 0 then β o else none) = some x := hk
   split at hk
   ·rename_i e; exact ⟨e, hk⟩
   ·cases hk
  have hset : ∀ b, (∃ k m, βc k = some (b, m)) ↔ ∃ m, β o = some (b, m) := fun b => ⟨fun ⟨k, m, hk⟩ => ⟨m, (hβc hk).2⟩, fun ⟨m, hm⟩ => ⟨0, m, hm⟩⟩
  refine (hg.calls F w βc vs h.low (by simpa using hl) (fun i d hi => ?_) (fun k ob hk b m hb => ?_) (fun k b m hb => ?_) (fun k k' b m m' hb hb' => by rw [(hβc hb).1, (hβc hb').1]) (fun _ _ => rfl)).mono ?_
  ·cases i with
   | zero =>
    simp only [List.getElem?_cons_zero, Option.some.injEq] at hi
    subst hi
    have := hds 0 _ rfl
    generalize vs.getD 0 Go.undef = v at this
    cases this with
    | os _ _ cap b m hb hc hl => exact .os 0 len cap b m hb hc hl
    | os0 _ a' k3 => exact .os0 0 a' k3
   | succ i =>
    simp only [List.getElem?_cons_succ] at hi
    rw [List.all_eq_true] at hsc
    exact (hds (i + 1) d hi).pure (D.sc_pure (hsc d (List.mem_of_getElem? hi)))
  ·obtain ⟨rfl, hb⟩ := hβc hb
   simp only [List.getElem?_cons_zero, Option.some.injEq] at hk
   subst hk
   exact h.objs o _ hoo b m hb
  ·obtain ⟨rfl, hb⟩ := hβc hb
   obtain ⟨_, n2, n3, _⟩ := h.names o b m hb
   exact ⟨n2, n3, Nat.zero_lt_one⟩
  ·rintro e w' ⟨v, F', β', rfl, k1, k2, k3, k4, k5, k6, k8, k9, _⟩
   refine ⟨v, F', β.putO o (β' 0), rfl, h.given hoo hcl (β' 0) τ' n' g' ⟨k1.os, k1.tape, k1.output, k1.size, fun b hb hno => k1.block b hb (fun hc => hno ((hset b).1 hc))⟩ k2 (fun b off hf => ?_) k4 (fun b m hb => ?_), ?_, by simp, fun i hi hn ⟨cs, hbox, _⟩ => ?_⟩
   ·rcases k3 b off hf with h9 | h9 | h9
    ·exact .inl h9
    ·exact .inr (.inl h9)
    ·exact .inr (.inr ((hset b).1 h9))
   ·obtain ⟨p1, p2, _, p4⟩ := k8 0 b m hb
    refine ⟨k6 0 _ rfl b m hb, p1, p2, ?_⟩
    rcases p4 with h9 | h9
    ·exact .inl h9
    ·exact .inr ((hset b).1 h9)
   ·generalize hv : v = v' at k5
    cases k5 with
    | os _ _ cap b m hb hc hl => subst hv; exact .os o len' cap b m (by rw [Bet.putO_r, if_pos rfl]; exact hb) hc hl
    | os0 _ a' k => subst hv; exact .os0 o a' k
   ·have hne : i ≠ o := fun e => by subst e; rw [hoo] at hbox; cases hbox
    exact ⟨by rw [Bet.putO_r, if_neg hne]; exact hn, by rw [List.getElem?_set_ne (Ne.symm hne)]⟩
 ·
  rename_i z τ rest
  cases hsc : rest.all D.sc with
  | false => rw [hsc] at hy; cases hy
  | true =>
  rw [hsc] at hy
  simp only [cond_true, Option.some.injEq, Prod.mk.injEq] at hy
  obtain ⟨rfl, rfl, rfl⟩ := hy
  have hb := Option.some.inj hb
  simp only [Prod.mk.injEq] at hb
  obtain ⟨rfl, rfl⟩ := hb
  refine (hg.calls F w noBet vs h.low (by simpa using hl) (fun i d hi => ?_) (fun k ob hk b m hb => by cases hb) (fun k b m hb => by cases hb) (fun k k' b m m' hb => by cases hb) (fun _ _ => rfl)).mono ?_
  ·cases i with
   | zero =>
    simp only [List.getElem?_cons_zero, Option.some.injEq] at hi
    subst hi
    have := hds 0 _ rfl
    generalize vs.getD 0 Go.undef = v at this
    cases this with
    | emp _ _ a' k1 k2 k3 => exact .os0 0 a' k3
   | succ i =>
    simp only [List.getElem?_cons_succ] at hi
    rw [List.all_eq_true] at hsc
    exact (hds (i + 1) d hi).pure (D.sc_pure (hsc d (List.mem_of_getElem? hi)))
  ·rintro e w' ⟨v, F', β', rfl, k1, k2, k3, k4, k5, k6, k8, k9, _⟩
   have hbel : Below w.heap.size w w' := ⟨k1.os, k1.tape, k1.output, k1.size, fun j hj => k1.block j hj (fun ⟨o, m, hb⟩ => by cases hb)⟩
   have hgr := h.grow hbel (F' := F) (fun _ _ h => h) (fun _ _ h => .inl h) (fun b o hf => Nat.lt_of_lt_of_le (h.frz b o hf) hbel.size)
   have hnew : ∀ o b m, β' o = some (b, m) → w.heap.size ≤ b := fun o b m hb => by
    rcases (k8 o b m hb).2.2.2 with h9 | ⟨i, m', h9⟩
    ·exact h9
    ·cases h9
   have hfl : [Ob.row false τ' n' g'].all (Ob.flat E) = true := by simp [Ob.flat, hscl]
   refine ⟨v, F, β.join s.objs.length β', rfl, hgr.join hE hfl k6 (fun o b m hb => ?_) (fun o b m hb => hgr.hid.off_of (fun i q m' hi => by have := (h.hid.names i q b m' hi).1; have := hnew o b m hb; omega)) k9, ?_, by simp, fun i hi hn _ => ⟨?_, by rw [List.getElem?_append_left hi]⟩⟩
   ·have hge := hnew o b m hb
    exact ⟨(k8 o b m hb).1, fun off hf => by have := h.frz b off hf; omega, (k8 o b m hb).2.2.1, Nat.le_trans h.below.size hge, fun i m' hi => by have := (h.names i b m' hi).2.1; omega⟩
   ·generalize hv : v = v' at k5
    cases k5 with
    | os _ _ cap b m hb hc hl =>
     subst hv
     refine .os _ len' cap b m ?_ hc hl
     rw [Bet.join_r, if_neg (Nat.lt_irrefl _), Nat.sub_self]
     exact hb
    | os0 _ a' k => subst hv; exact .os0 _ a' k
   ·rw [Bet.join_r, if_pos hi]; exact hn
 ·cases hy
end Go.Proofs.Ytcmfekgdlaffkaa.Vm

