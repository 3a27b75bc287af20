/- The value machine: calls that lend rows or are handed rows, on the machine. Conditions: none. -/
import Derived.Test.YtmgndndkkeinfaaGreatVmI
namespace Go.Proofs.YtmgndndkkeinfaaGreat.Vm
open Go Go.RowKit
set_option linter.unusedVariables false
set_option linter.unusedSimpArgs false

variable {RT : Type} {den : RT → Type} {E : Env RT den} {P : Program}

/-- The function, called with rows lent to it (told as objects 0..), returns this, with these rows behind it: first the lent ones, turned, at their places; then new ones, handed over. -/
structure GoodX (E : Env RT den) (P : Program) (f : Nat) (xs : List (D RT den)) (ins : List (Ob RT den)) (r : D RT den) (outs : List (Ob RT den)) : Prop where
  fn : ∃ fn, P.funcs[f]? = some fn ∧ fn.body.isNone = false ∧ (fn.name == "runtime.NumGoroutine") = false
  len : ins.length ≤ outs.length
  calls : ∀ (F : Frz) (w : World) (β : Bet) (vs : Array Value), (∀ b o, F b o → b < w.heap.size) → xs.length = vs.size → (∀ i x, xs[i]? = some x → VRep E F w β x (vs.getD i Go.undef)) →
    (∀ o ob, ins[o]? = some ob → ∀ b m, β o = some (b, m) → ORep E F w β b m ob) → (∀ o b m, β o = some (b, m) → b < w.heap.size ∧ (∀ off, ¬ F b off) ∧ o < ins.length) → (∀ o o' b m m', β o = some (b, m) → β o' = some (b, m') → o = o') →
    Calls P f vs w (fun e w' => ∃ v F' β', e = .returned v ∧ Keep (fun b => ∃ o m, β o = some (b, m)) w.heap.size w w' ∧ (∀ b o, F b o → F' b o) ∧ (∀ b o, F' b o → F b o ∨ w.heap.size ≤ b) ∧ (∀ b o, F' b o → b < w'.heap.size) ∧
      VRep E F' w' β' r v ∧ (∀ o ob, outs[o]? = some ob → ∀ b m, β' o = some (b, m) → ORep E F' w' β' b m ob) ∧ (∀ o, o < ins.length → ∀ x, β o = some x → β' o = some x) ∧
      (∀ o b m, β' o = some (b, m) → b < w'.heap.size ∧ (∀ off, ¬ F' b off) ∧ o < outs.length ∧ (w.heap.size ≤ b ∨ ∃ m', β o = some (b, m'))) ∧ (∀ o o' b m m', β' o = some (b, m) → β' o' = some (b, m') → o = o'))

structure PrOk (E : Env RT den) (P : Program) (pc : Pr RT den) : Prop where
  fn : ∀ f xs r, pc.fn f xs = some r → Good E P f xs r
  fx : ∀ f xs ins x, pc.fx f xs ins = some x → GoodX E P f xs ins x.1 x.2

theorem VRep.ren1 {F : Frz} {w : World} {β β' : Bet} {σ : Nat → Nat} {d : D RT den} {v : Value} (h : VRep E F w β d v) (hd : d.hc = true) (hσ : ∀ o, o ∈ d.ids1 → ∀ x, β o = some x → β' (σ o) = some x) : VRep E F w β' (d.ren1 σ) v := by
  cases h with
  | os o len cap b m hb hc hl => exact .os (σ o) len cap b m (hσ o (by simp [D.ids1]) _ hb) hc hl
  | os0 o a' k3 => exact .os0 (σ o) a' k3
  | emp z τ a' k1 k2 k3 => exact .emp z τ a' k1 k2 k3
  | int k n => exact .int k n
  | bool b => exact .bool b
  | str b => exact .str b
  | _ => simp [D.hc, D.sc] at hd

theorem VRep.ren {F : Frz} {w : World} {β β' : Bet} {σ : Nat → Nat} {d : D RT den} {v : Value} (h : VRep E F w β d v) (hd : d.hs = true) (hσ : ∀ o, o ∈ d.ids → ∀ x, β o = some x → β' (σ o) = some x) : VRep E F w β' (d.ren σ) v := by
  cases h with
  | agg cs vs h1 h2 =>
    simp only [D.hs, List.all_eq_true] at hd
    refine .agg _ vs (by simpa using h1) (fun j c hc => ?_)
    rw [List.getElem?_map] at hc
    cases hq : cs[j]? with
    | none => rw [hq] at hc; cases hc
    | some c0 =>
      rw [hq] at hc
      simp only [Option.map_some, Option.some.injEq] at hc
      subst hc
      exact (h2 j c0 hq).ren1 (hd c0 (List.mem_of_getElem? hq)) (fun o ho => hσ o (by simp only [D.ids, List.mem_flatMap]; exact ⟨c0, List.mem_of_getElem? hq, ho⟩))
  | os o len cap b m hb hc hl => exact .os (σ o) len cap b m (hσ o (by simp [D.ids, D.ids1]) _ hb) hc hl
  | os0 o a' k3 => exact .os0 (σ o) a' k3
  | emp z τ a' k1 k2 k3 => exact .emp z τ a' k1 k2 k3
  | int k n => exact .int k n
  | bool b => exact .bool b
  | str b => exact .str b
  | _ => simp [D.hs, D.hc, D.sc] at hd

/-- What is handed over looks at no frozen cell. -/
theorem VRep.hc {F F' : Frz} {w w' : World} {β : Bet} {d : D RT den} {v : Value} (h : VRep E F w β d v) (hd : d.hc = true) : VRep E F' w' β d v := by
  cases h with
  | os o len cap b m hb hc hl => exact .os o len cap b m hb hc hl
  | os0 o a' k3 => exact .os0 o a' k3
  | emp z τ a' k1 k2 k3 => exact .emp z τ a' k1 k2 k3
  | int k n => exact .int k n
  | bool b => exact .bool b
  | str b => exact .str b
  | _ => simp [D.hc, D.sc] at hd
theorem VRep.hs {F F' : Frz} {w w' : World} {β : Bet} {d : D RT den} {v : Value} (h : VRep E F w β d v) (hd : d.hs = true) : VRep E F' w' β d v := by
  cases h with
  | agg cs vs h1 h2 =>
    simp only [D.hs, List.all_eq_true] at hd
    exact .agg _ vs h1 (fun j c hc => (h2 j c hc).hc (hd c (List.mem_of_getElem? hc)))
  | os o len cap b m hb hc hl => exact .os o len cap b m hb hc hl
  | os0 o a' k3 => exact .os0 o a' k3
  | emp z τ a' k1 k2 k3 => exact .emp z τ a' k1 k2 k3
  | int k n => exact .int k n
  | bool b => exact .bool b
  | str b => exact .str b
  | _ => simp [D.hs, D.hc, D.sc] at hd

theorem posOf_get : ∀ {l : List Nat} {o : Nat}, o ∈ l → l[posOf l o]? = some o
  | [], o, h => by simp at h
  | x :: l, o, h => by
    simp only [posOf]
    by_cases hx : x = o
    · subst hx; simp
    · have : (x == o) = false := by simpa using hx
      rw [this]
      simp only [cond_false, List.getElem?_cons_succ]
      exact posOf_get (by simpa [Ne.symm hx] using h)

theorem nodups_inj : ∀ {l : List Nat}, nodups l = true → ∀ {i j o : Nat}, l[i]? = some o → l[j]? = some o → i = j
  | [], _, i, j, o, hi, _ => by simp at hi
  | x :: l, h, i, j, o, hi, hj => by
    simp only [nodups, Bool.and_eq_true, Bool.not_eq_true', List.elem_eq_mem, decide_eq_false_iff_not] at h
    cases i with
    | zero =>
      cases j with
      | zero => rfl
      | succ j =>
        simp only [List.getElem?_cons_zero, Option.some.injEq, List.getElem?_cons_succ] at hi hj
        subst hi
        exact absurd (List.mem_of_getElem? hj) h.1
    | succ i =>
      cases j with
      | zero =>
        simp only [List.getElem?_cons_zero, Option.some.injEq, List.getElem?_cons_succ] at hi hj
        subst hj
        exact absurd (List.mem_of_getElem? hi) h.1
      | succ j =>
        simp only [List.getElem?_cons_succ] at hi hj
        rw [nodups_inj h.2 hi hj]

theorem lents_get {os : List (Ob RT den)} : ∀ {ids : List Nat} {ins : List (Ob RT den)}, lents os ids = some ins → ins.length = ids.length ∧ ∀ (k o : Nat), ids[k]? = some o → ∃ l τ n f, os[o]? = some (.row l τ n f) ∧ ins[k]? = some (.row true τ n f)
  | [], ins, h => by simp only [lents, Option.some.injEq] at h; subst h; simp
  | o :: ids, ins, h => by
    simp only [lents] at h
    split at h
    · rename_i l τ n f ho
      simp only [Option.bind_eq_some_iff] at h
      obtain ⟨x, hx, h⟩ := h
      have h := Option.some.inj h; subst h
      obtain ⟨h1, h2⟩ := lents_get hx
      refine ⟨by simp [h1], fun k o' hk => ?_⟩
      cases k with
      | zero =>
        simp only [List.getElem?_cons_zero, Option.some.injEq] at hk
        subst hk
        exact ⟨l, τ, n, f, obj_some ho (by simp), rfl⟩
      | succ k => simpa using h2 k o' (by simpa using hk)
    · cases h

theorem backs_get : ∀ {ids : List Nat} {os xs os' : List (Ob RT den)}, nodups ids = true → backs os ids xs = some os' → os'.length = os.length ∧ xs.length = ids.length ∧ (∀ o, o ∉ ids → os'[o]? = os[o]?) ∧
    ∀ (k o : Nat), ids[k]? = some o → ∃ l b τ n f τ0 n0 f0, xs[k]? = some (.row l τ n f) ∧ os'[o]? = some (.row b τ n f) ∧ os[o]? = some (.row b τ0 n0 f0)
  | [], os, [], os', hn, h => by simp only [backs, Option.some.injEq] at h; subst h; simp
  | [], os, _ :: _, os', hn, h => by simp [backs] at h
  | _ :: _, os, [], os', hn, h => by simp [backs] at h
  | o :: ids, os, x :: xs, os', hn, h => by
    simp only [backs] at h
    split at h
    · rename_i b τ0 n0 f0 l τ n f ho
      simp only [nodups, Bool.and_eq_true, Bool.not_eq_true', List.elem_eq_mem, decide_eq_false_iff_not] at hn
      have hos := obj_some ho (by simp)
      have hlt := (List.getElem?_eq_some_iff.1 hos).1
      obtain ⟨h1, h2, h3, h4⟩ := backs_get hn.2 h
      refine ⟨by simpa using h1, by simp [h2], fun o' ho' => ?_, fun k o' hk => ?_⟩
      · simp only [List.mem_cons, not_or] at ho'
        rw [h3 o' ho'.2, List.getElem?_set_ne (Ne.symm ho'.1)]
      · cases k with
        | zero =>
          simp only [List.getElem?_cons_zero, Option.some.injEq] at hk
          subst hk
          exact ⟨l, b, τ, n, f, τ0, n0, f0, rfl, by rw [h3 o hn.1]; simp [hlt], hos⟩
        | succ k =>
          simp only [List.getElem?_cons_succ] at hk ⊢
          obtain ⟨l', b', τ', n', f', τ0', n0', f0', e1, e2, e3⟩ := h4 k o' hk
          have hne : o ≠ o' := fun e => by subst e; exact hn.1 (List.mem_of_getElem? hk)
          exact ⟨l', b', τ', n', f', τ0', n0', f0', e1, e2, by rw [List.getElem?_set_ne hne] at e3; exact e3⟩
    · cases h

/-- Rows that were lent are turned. -/
theorem Rel.lend {F0 : Was} {w0 : World} {F F' : Frz} {β : Bet} {s : St RT den} {a : Act} {w w' : World} (h : Rel E F0 w0 F β s a w) {l : Nat → Prop} {ids : List Nat} (hb : Keep l w.heap.size w w') (hl : ∀ b, l b → ∃ o m, o ∈ ids ∧ β o = some (b, m))
    (h1 : ∀ b o, F b o → F' b o) (h2 : ∀ b o, F' b o → F b o ∨ w.heap.size ≤ b) (h3 : ∀ b o, F' b o → b < w'.heap.size) {os' : List (Ob RT den)} (hlen : os'.length = s.objs.length) (hoth : ∀ o, o ∉ ids → os'[o]? = s.objs[o]?)
    (hin : ∀ o ob b m, o ∈ ids → os'[o]? = some ob → β o = some (b, m) → ORep E F' w' β b m ob) (hpl : ∀ (o : Nat) (ob : Ob RT den), s.objs[o]? = some ob → ob.isLent = true → ∃ ob' : Ob RT den, os'[o]? = some ob' ∧ ob'.isLent = true) : Rel E F0 w0 F' β { s with objs := os' } a w' := by
  have hk : Keeps F w w' := fun b o u hf hc => by
    have hbl : w'.heap[b]? = w.heap[b]? := hb.block b (h.frz b o hf) (fun hlb => by
      obtain ⟨o', m, _, hb'⟩ := hl b hlb
      exact (h.names o' b m hb').2.2.1 o hf)
    unfold World.cell? at hc ⊢
    simp only [at'] at hc ⊢
    rw [hbl]; exact hc
  refine ⟨h.defers, h.size, fun i d hd => (h.slots i d hd).mono h1 hk (Bet.le_refl _), fun o ob ho b m hβ => ?_, fun o b m hβ => ?_, h.inj, h.below.trans ⟨hb.os, hb.tape, hb.output, hb.size, fun k hk0 hno => hb.block k (Nat.lt_of_lt_of_le hk0 h.below.size) (fun hlk => ?_)⟩, h3, fun b o hf => h1 b o (h.frz1 b o hf), fun b o hf => (h2 b o hf).elim (h.frz2 b o) (fun hge => .inr (Nat.le_trans h.below.size hge)), fun o x hx => ⟨(h.place o x hx).1, ?_⟩⟩
  · by_cases hi : o ∈ ids
    · exact hin o ob b m hi ho hβ
    · rw [show ({ s with objs := os' } : St RT den).objs = os' from rfl, hoth o hi] at ho
      refine (h.objs o ob ho b m hβ).mono h1 hk (hb.block b (h.names o b m hβ).2.1 (fun hlb => ?_)) (Bet.le_refl _)
      obtain ⟨o', m', hi', hb'⟩ := hl b hlb
      have := h.inj o o' b m m' hβ hb'
      subst this
      exact hi hi'
  · obtain ⟨n1, n2, n3, n4⟩ := h.names o b m hβ
    exact ⟨n1, Nat.lt_of_lt_of_le n2 hb.size, fun off hf => (h2 b off hf).elim (n3 off) (by omega), by show o < os'.length; rw [hlen]; exact n4⟩
  · obtain ⟨o, m, _, hb'⟩ := hl k hlk
    rcases (h.names o k m hb').1 with h9 | h9
    · omega
    · exact hno h9
  · obtain ⟨ob, h5, h6⟩ := (h.place o x hx).2
    exact hpl o ob h5 h6

/-- Where the objects lie, with new ones behind them. -/
def Bet.join (β : Bet) (n : Nat) (β' : Bet) : Bet := fun o => if o < n then β o else β' (o - n)

/-- Rows that are handed over. -/
theorem Rel.join (hE : Ok E P) {F0 : Was} {w0 : World} {F F' : Frz} {β βc : Bet} {s : St RT den} {a : Act} {w : World} {outs : List (Ob RT den)} (h : Rel E F0 w0 F β s a w) (hflat : outs.all (Ob.flat E) = true)
    (hobj : ∀ o ob, outs[o]? = some ob → ∀ b m, βc o = some (b, m) → ORep E F' w βc b m ob) (hnames : ∀ o b m, βc o = some (b, m) → b < w.heap.size ∧ (∀ off, ¬ F b off) ∧ o < outs.length ∧ w0.heap.size ≤ b ∧ ∀ i m', β i ≠ some (b, m'))
    (hinj : ∀ o o' b m m', βc o = some (b, m) → βc o' = some (b, m') → o = o') : Rel E F0 w0 F (β.join s.objs.length βc) { s with objs := s.objs ++ outs } a w := by
  have hle : β.le (β.join s.objs.length βc) := fun o x hx => by
    unfold Bet.join
    rw [if_pos (h.names o x.1 x.2 hx).2.2.2]; exact hx
  refine ⟨h.defers, h.size, fun i d hd => (h.slots i d hd).mono (fun _ _ h => h) (Keeps.refl _ _) hle, fun o ob ho b m hb => ?_, fun o b m hb => ?_, fun o o' b m m' hb hb' => ?_, h.below, h.frz, h.frz1, h.frz2, fun o x hx => ⟨hle o x (h.place o x hx).1, ?_⟩⟩
  · unfold Bet.join at hb
    by_cases hlt : o < s.objs.length
    · rw [if_pos hlt] at hb
      rw [show ({ s with objs := s.objs ++ outs } : St RT den).objs = s.objs ++ outs from rfl, List.getElem?_append_left hlt] at ho
      exact (h.objs o ob ho b m hb).mono (fun _ _ h => h) (Keeps.refl _ _) rfl hle
    · rw [if_neg hlt] at hb
      rw [show ({ s with objs := s.objs ++ outs } : St RT den).objs = s.objs ++ outs from rfl, List.getElem?_append_right (by omega)] at ho
      have hf := hflat
      rw [List.all_eq_true] at hf
      have hq := hf ob (List.mem_of_getElem? ho)
      cases ob with
      | box cs => simp [Ob.flat] at hq
      | gone => simp [Ob.flat] at hq
      | row l τ n f =>
        cases l with
        | true => simp [Ob.flat] at hq
        | false =>
          obtain ⟨hm, hm1, cur, e, hh, hs, hr⟩ := hobj _ _ ho b m hb
          have hsc := hE.scl τ hq
          refine ⟨hm, hm1, cur, e, hh, hs, fun i j c hi hc => (hr i j c hi hc).sce ?_⟩
          have := hsc (f i)
          rw [List.all_eq_true] at this
          exact this c (List.mem_of_getElem? hc)
  · unfold Bet.join at hb
    by_cases hlt : o < s.objs.length
    · rw [if_pos hlt] at hb
      obtain ⟨n1, n2, n3, n4⟩ := h.names o b m hb
      exact ⟨n1, n2, n3, by simp; omega⟩
    · rw [if_neg hlt] at hb
      obtain ⟨n1, n2, n3, n4, n5⟩ := hnames _ b m hb
      exact ⟨.inl n4, n1, n2, by simp; omega⟩
  · unfold Bet.join at hb hb'
    by_cases h1 : o < s.objs.length <;> by_cases h2 : o' < s.objs.length
    · rw [if_pos h1] at hb; rw [if_pos h2] at hb'
      exact h.inj o o' b m m' hb hb'
    · rw [if_pos h1] at hb; rw [if_neg h2] at hb'
      exact absurd hb ((hnames _ b m' hb').2.2.2.2 o m)
    · rw [if_neg h1] at hb; rw [if_pos h2] at hb'
      exact absurd hb' ((hnames _ b m hb).2.2.2.2 o' m')
    · rw [if_neg h1] at hb; rw [if_neg h2] at hb'
      have := hinj _ _ b m m' hb hb'
      omega
  · obtain ⟨ob, h5, h6⟩ := (h.place o x hx).2
    exact ⟨ob, by show (s.objs ++ outs)[o]? = _; rw [List.getElem?_append_left (List.getElem?_eq_some_iff.1 h5).1]; exact h5, h6⟩

/-- A call that lends rows, or is handed rows. -/
theorem callX_wp (hE : Ok E P) {pc : Pr RT den} (hpc : PrOk E P pc) {F0 : Was} {w0 : World} {F : Frz} {β : Bet} {s : St RT den} {a : Act} {w : World} (h : Rel E F0 w0 F β s a w)
    {f : Nat} {ds : List (D RT den)} {vs : Array Value} {r : D RT den} {os' : List (Ob RT den)} (hl : ds.length = vs.size) (hds : ∀ i x, ds[i]? = some x → VRep E F w β x (vs.getD i Go.undef)) (hv : callX E pc s.objs f ds = some (r, os')) :
    (∃ fn, P.funcs[f]? = some fn ∧ fn.body.isNone = false ∧ (fn.name == "runtime.NumGoroutine") = false) ∧
    Calls P f vs w (fun e w' => ∃ v F' β', e = .returned v ∧ Rel E F0 w0 F' β' { s with objs := os' } a w' ∧ VRep E F' w' β' r v ∧ s.objs.length ≤ os'.length ∧
      ∀ i, i < s.objs.length → β i = none → (∃ cs, s.objs[i]? = some (.box cs) ∧ cs.all D.pure = true) → β' i = none ∧ os'[i]? = s.objs[i]?) := by
  simp only [callX, Option.bind_eq_some_iff] at hv
  obtain ⟨⟨ys, ins, ids⟩, hy, x, hx, hv⟩ := hv
  have hg := hpc.fx f ys ins x hx
  refine ⟨hg.fn, ?_⟩
  cases hln : pc.lend f with
  | true =>
    rw [hln] at hy hv
    simp only [argsX] at hy
    cases hq : nodups (ds.flatMap D.ids) && ds.all D.hs with
    | false => rw [hq] at hy; cases hy
    | true =>
      rw [hq] at hy
      simp only [cond_true, Option.bind_eq_some_iff, Option.some.injEq, Prod.mk.injEq] at hy
      obtain ⟨ins', hins, rfl, rfl, rfl⟩ := hy
      simp only [Bool.and_eq_true] at hq
      obtain ⟨hnd, hhs⟩ := hq
      rw [List.all_eq_true] at hhs
      simp only [backX] at hv
      cases hsc : x.1.sc with
      | false => rw [hsc] at hv; cases hv
      | true =>
        rw [hsc] at hv
        simp only [cond_true, Option.bind_eq_some_iff, Option.some.injEq, Prod.mk.injEq] at hv
        obtain ⟨os1, hos, rfl, rfl⟩ := hv
        obtain ⟨li1, li2⟩ := lents_get hins
        obtain ⟨ba1, ba2, ba3, ba4⟩ := backs_get hnd hos
        generalize hids : ds.flatMap D.ids = ids at *
        let βc : Bet := fun k => (ids[k]?).bind β
        have hβc : ∀ {k : Nat} {b : Nat} {m : Nat × Nat}, βc k = some (b, m) → ∃ o, ids[k]? = some o ∧ β o = some (b, m) := fun {k b m} hk => by
          simp only [βc, Option.bind_eq_some_iff] at hk; exact hk
        refine (hg.calls F w βc vs h.frz (by simpa using hl) ?_ ?_ ?_ ?_).mono ?_
        · intro i y hy
          rw [List.getElem?_map] at hy
          cases hd : ds[i]? with
          | none => rw [hd] at hy; cases hy
          | some d =>
            rw [hd] at hy
            simp only [Option.map_some, Option.some.injEq] at hy
            subst hy
            refine (hds i d hd).ren (hhs d (List.mem_of_getElem? hd)) (fun o ho z hz => ?_)
            have hm : o ∈ ids := by rw [← hids]; simp only [List.mem_flatMap]; exact ⟨d, List.mem_of_getElem? hd, ho⟩
            simp only [βc, posOf_get hm, Option.bind_some]
            exact hz
        · intro k ob hob b m hb
          obtain ⟨o, ho, hbo⟩ := hβc hb
          obtain ⟨l, τ, n, g, e1, e2⟩ := li2 k o ho
          rw [e2] at hob
          cases hob
          exact h.objs o _ e1 b m hbo
        · intro k b m hb
          obtain ⟨o, ho, hbo⟩ := hβc hb
          obtain ⟨n1, n2, n3, n4⟩ := h.names o b m hbo
          exact ⟨n2, n3, by rw [li1]; exact (List.getElem?_eq_some_iff.1 ho).1⟩
        · intro k k' b m m' hb hb'
          obtain ⟨o, ho, hbo⟩ := hβc hb
          obtain ⟨o', ho', hbo'⟩ := hβc hb'
          have := h.inj o o' b m m' hbo hbo'
          subst this
          exact nodups_inj hnd ho ho'
        · rintro e w' ⟨v, F', β', rfl, k1, k2, k3, k4, k5, k6, k7, k8, k9⟩
          refine ⟨v, F', β, rfl, h.lend (ids := ids) k1 (fun b ⟨k, m, hk⟩ => ?_) k2 k3 k4 ba1 ba3 (fun o ob b m hi ho hb => ?_) (fun o ob ho hlt => ?_), k5.scalar (by cases hx1 : x.1 <;> simp [hx1, D.sc] at hsc <;> rfl), by omega, fun i hi hn ⟨cs, hbx, _⟩ => ⟨hn, ba3 i (fun hm => ?_)⟩⟩
          · obtain ⟨o, ho, hbo⟩ := hβc hk
            exact ⟨o, m, List.mem_of_getElem? ho, hbo⟩
          · obtain ⟨k, hk⟩ := List.mem_iff_getElem?.1 hi
            obtain ⟨l, b', τ, n, g, τ0, n0, g0, e1, e2, e3⟩ := ba4 k o hk
            rw [e2] at ho
            cases ho
            have hbk : βc k = some (b, m) := by simp only [βc, hk, Option.bind_some]; exact hb
            have hkl : k < ins'.length := by rw [li1]; exact (List.getElem?_eq_some_iff.1 hk).1
            exact k6 k _ e1 b m (k7 k hkl _ hbk)
          · by_cases hi : o ∈ ids
            · obtain ⟨k, hk⟩ := List.mem_iff_getElem?.1 hi
              obtain ⟨l, b', τ, n, g, τ0, n0, g0, e1, e2, e3⟩ := ba4 k o hk
              rw [e3] at ho
              cases ho
              exact ⟨_, e2, hlt⟩
            · exact ⟨ob, by rw [ba3 o hi]; exact ho, hlt⟩
          · obtain ⟨k, hk⟩ := List.mem_iff_getElem?.1 hm
            obtain ⟨l, τ, n, g, e1, e2⟩ := li2 k i hk
            rw [hbx] at e1
            cases e1
  | false =>
    rw [hln] at hy hv
    simp only [argsX, Option.bind_eq_some_iff, Option.some.injEq, Prod.mk.injEq] at hy
    obtain ⟨ys', hys, rfl, rfl, rfl⟩ := hy
    simp only [backX] at hv
    cases hq : x.1.hs && x.2.all (Ob.flat E) with
    | false => rw [hq] at hv; cases hv
    | true =>
      rw [hq] at hv
      simp only [cond_true, Option.some.injEq, Prod.mk.injEq] at hv
      obtain ⟨rfl, rfl⟩ := hv
      simp only [Bool.and_eq_true] at hq
      obtain ⟨hhs, hfl⟩ := hq
      obtain ⟨l1, l2⟩ := snaps_get hys
      refine (hg.calls (fun b o => F b o ∨ ∃ o m, β o = some (b, m)) w noBet vs ?_ (by omega) ?_ (fun o ob ho => by simp at ho) (fun o b m hb => by cases hb) (fun o o' b m m' hb => by cases hb)).mono ?_
      · rintro b o (hF | ⟨i, m, hi⟩)
        · exact h.frz b o hF
        · exact (h.names i b m hi).2.1
      · intro i y hy
        obtain ⟨d, hd, hs⟩ := l2 i y hy
        exact snap_rep hE h (fun _ _ => .inl) (hds i d hd) hs (fun _ o b m off hb => .inr ⟨o, m, hb⟩)
      · rintro e w' ⟨v, F', β', rfl, k1, k2, k3, k4, k5, k6, k7, k8, k9⟩
        have hbel : Below w.heap.size w w' := ⟨k1.os, k1.tape, k1.output, k1.size, fun j hj => k1.block j hj (fun ⟨o, m, hb⟩ => by cases hb)⟩
        have hgr := h.grow hbel (F' := F) (fun _ _ h => h) (fun _ _ h => .inl h) (fun b o hf => Nat.lt_of_lt_of_le (h.frz b o hf) hbel.size)
        have hnew : ∀ o b m, β' o = some (b, m) → w.heap.size ≤ b := fun o b m hb => by
          rcases (k8 o b m hb).2.2.2 with h9 | ⟨m', h9⟩
          · exact h9
          · cases h9
        refine ⟨v, F, β.join s.objs.length β', rfl, hgr.join hE hfl k6 (fun o b m hb => ?_) k9, ?_, by simp, fun i hi hn _ => ⟨?_, by rw [List.getElem?_append_left hi]⟩⟩
        · have hge := hnew o b m hb
          exact ⟨(k8 o b m hb).1, fun off hf => by have := h.frz b off hf; omega, (k8 o b m hb).2.2.1, Nat.le_trans h.below.size hge, fun i m' hi => by have := (h.names i b m' hi).2.1; omega⟩
        · refine (k5.hs hhs).ren hhs (fun o ho z hz => ?_)
          unfold Bet.join
          rw [if_neg (by omega), Nat.add_sub_cancel]
          exact hz
        · unfold Bet.join
          rw [if_pos hi]; exact hn

end Go.Proofs.YtmgndndkkeinfaaGreat.Vm
