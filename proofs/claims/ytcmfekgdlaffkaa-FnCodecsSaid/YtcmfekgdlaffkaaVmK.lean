
/- The value machine: a step on the machine; the orders of a region. Conditions: none. -/
import Derived.Test.YtcmfekgdlaffkaaVmV
namespace Go.Proofs.Ytcmfekgdlaffkaa.Vm
open Go Go.RowKit
set_option linter.unusedVariables false
set_option linter.unusedSimpArgs false
variable {RT : Type} {den : RT → Type} {E : Env RT den} {P : Program} {pc : Pr RT den}
theorem Rel.put {F0 : Was} {w0 : World} {F : Frz} {β : Bet} {s : St RT den} {a : Act} {w : World} (h : Rel E F0 w0 F β s a w) {d : D RT den} {v : Value} (hd : VRep E F w β d v) (t : Option Nat) : Rel E F0 w0 F β (s.put t d) (a.put t v) w := by
 cases t with
 | none => exact h
 | some t =>
  refine ⟨h.defers, by simp [Act.put, St.put, h.size], fun i x hx => ?_, h.objs, h.names, h.inj, h.below, h.frz, h.frz1, h.frz2, h.place, h.placeH, h.hid, h.tab⟩
  simp only [St.put] at hx
  simp only [Act.put]
  by_cases hit : t = i
  ·subst hit
   have hl : t < s.slots.length := by
    have := (List.getElem?_eq_some_iff.1 hx).1
    simpa using this
   have hl2 : t < a.tmps.size := by rw [h.size]; exact hl
   simp [hl] at hx
   subst hx
   simp [Array.getD, hl2]
   exact hd
  ·rw [List.getElem?_set_ne hit] at hx
   have := h.slots i x hx
   have hl : i < a.tmps.size := by rw [h.size]; exact (List.getElem?_eq_some_iff.1 hx).1
   have e : (a.tmps.setIfInBounds t v).getD i Go.undef = a.tmps.getD i Go.undef := by
    simp [Array.getD, hl, hit]
   rw [e]; exact this
theorem yielded_get {F0 : Was} {w0 : World} {F : Frz} {β : Bet} {s : St RT den} {a : Act} {w : World} (h : Rel E F0 w0 F β s a w) {ops : Array Oper} {j t : Nat} (ht : dstOf ops j = some t) :
  (∀ g, s.get t = .bool g → yielded ops a.tmps j = some g) ∧ (s.get t = .undef → yielded ops a.tmps j = none) := by
 have hr := get_rep h t
 unfold dstOf at ht
 unfold yielded
 simp only [ht, Option.bind_some]
 constructor
 ·intro g hg
  rw [hg] at hr
  have hv := hr.toBool
  by_cases hl : t < a.tmps.size
  ·rw [getD_some hl, hv]
  ·simp [Array.getD, hl, Go.undef] at hv
 ·intro hg
  rw [hg] at hr
  by_cases hl : t < a.tmps.size
  ·rw [getD_some hl]
   generalize a.tmps.getD t Go.undef = v at hr
   cases hr
   rfl
  ·simp [hl]
theorem kill_objs {s : St RT den} {o : Option Nat} : (s.kill o).objs = s.objs := by cases o <;> rfl
theorem step_wp (hE : Ok E P) (hpc : PrOk E P pc) {F0 : Was} {w0 : World} {F : Frz} {β : Bet} {s s' : St RT den} {a : Act} {w : World} (h : Rel E F0 w0 F β s a w) {ops : Array Oper} {i al : Nat} {o : Oper} (hi : ops[i]? = some o)
  (hs : stepOp E pc ops (o, al) s = some s') (hal : ∀ t, o.op = .alloc t → β al = none ∧ ∃ cs, E.zero t = some cs ∧ s.objs[al]? = some (.box false cs)) {K : Act → World → Prop} {Q : Exit → Act → World → Prop}
  (next : ∀ F' β' a' w', Rel E F0 w0 F' β' s' a' w' → s.objs.length ≤ s'.objs.length → (∀ i, i < s.objs.length → β i = none → ¬ (i = al ∧ isAlloc o.op = true) → (∃ cs, s.objs[i]? = some (.box false cs) ∧ cs.all D.pure = true) → β' i = none ∧ s'.objs[i]? = s.objs[i]?) → K a' w') : wpOp P ops Q i K a w := by
 have run : ∀ s1, doOp E pc o al s = some s1 → s1 = s' → o.wp P a w K Q := by
  intro s1 hd e
  subst e
  unfold doOp at hd
  cases hxo : xOf pc.has o.op with
  | some fx =>
   obtain ⟨f, xs⟩ := fx
   rw [hxo] at hd
   simp only [Option.bind_eq_some_iff] at hd
   obtain ⟨⟨r, os'⟩, hv, hd⟩ := hd
   have hd := Option.some.inj hd; subst hd
   obtain ⟨dst, op, ty, pos, after, guard⟩ := o
   obtain ⟨args, argTypes, rfl, rfl⟩ := xOf_call hxo
   obtain ⟨a1, a2⟩ := args_rep h (E.par f) args.toList
   obtain ⟨c1, c2⟩ := callX_wp hE hpc h (vs := args.map a.eval) (by simp [a1]) (fun i x hx => by
    have := a2 i x hx
    rw [← Array.toList_map, getD_toList] at this
    exact this) hv
   unfold Oper.wp
   have hrun : (execOp a.eval ⟨dst, .call ⟨.value (.func f), args, argTypes⟩, ty, pos, after, guard⟩).run P w = .ok (.enter f (args.map a.eval)) w := by
    simp [execOp, resolve, Deferred.ofValue, invoke, run_callFunc c1, Act.eval]
   rw [hrun]
   refine c2.mono ?_
   rintro e w' ⟨v, F', β', rfl, hr, hvr, hlen, hβ⟩
   exact next F' β' _ w' (hr.put hvr _) (by rw [put_objs]; exact hlen) (fun i hi hn hne hbx => ⟨(hβ i hi hn hbx).1, by rw [put_objs]; exact (hβ i hi hn hbx).2⟩)
  | none =>
  rw [hxo] at hd
  dsimp only at hd
  cases hxg : xOf pc.gv o.op with
  | some fx =>
   obtain ⟨f, xs⟩ := fx
   rw [hxg] at hd
   simp only [Option.bind_eq_some_iff] at hd
   obtain ⟨⟨y1, r, os'⟩, hv, hd⟩ := hd
   have hd := Option.some.inj hd; subst hd
   obtain ⟨dst, op, ty, pos, after, guard⟩ := o
   obtain ⟨args, argTypes, rfl, rfl⟩ := xOf_call hxg
   obtain ⟨a1, a2⟩ := args_rep h (E.par f) args.toList
   obtain ⟨c1, c2⟩ := callG_wp hE hpc h (vs := args.map a.eval) (by simp [a1]) (fun i x hx => by
    have := a2 i x hx
    rw [← Array.toList_map, getD_toList] at this
    exact this) hv
   unfold Oper.wp
   have hrun : (execOp a.eval ⟨dst, .call ⟨.value (.func f), args, argTypes⟩, ty, pos, after, guard⟩).run P w = .ok (.enter f (args.map a.eval)) w := by
    simp [execOp, resolve, Deferred.ofValue, invoke, run_callFunc c1, Act.eval]
   rw [hrun]
   refine c2.mono ?_
   rintro e w' ⟨v, F', β', rfl, hr, hvr, hlen, hβ⟩
   exact next F' β' _ w' (hr.put hvr _) (by rw [put_objs, kill_objs]; exact hlen) (fun i hi hn hne hbx => ⟨(hβ i hi hn hbx).1, by rw [put_objs, kill_objs]; exact (hβ i hi hn hbx).2⟩)
  | none =>
  rw [hxg] at hd
  dsimp only at hd
  cases hst : still o.op with
  | true =>
   simp only [hst, cond_true, Option.bind_eq_some_iff] at hd
   obtain ⟨d, hv, hd⟩ := hd
   have hd := Option.some.inj hd; subst hd
   exact val_wp hE hpc.fn h o al hal hv (fun F' β' v w' hr hvr hβ => next F' β' _ w' (hr.put hvr _) (by rw [put_objs]; exact Nat.le_refl _) (fun i hi hn hne _ => ⟨hβ i hn hne, by rw [put_objs]⟩))
  | false =>
   simp only [hst, cond_false, Option.bind_eq_some_iff] at hd
   obtain ⟨⟨d, os⟩, hv, hd⟩ := hd
   have hd := Option.some.inj hd; subst hd
   have hlen := eff_len hv
   exact eff_wp hE h o hv (fun F' β' v w' hr hvr hβ => next F' β' _ w' (hr.put hvr _) (by rw [put_objs, kill_objs]; exact hlen) (fun i hi hn hne hbx => ⟨(hβ i hi hn hbx).1, by rw [put_objs, kill_objs]; exact (hβ i hi hn hbx).2⟩))
 have skip : s.put o.dst .undef = s' → K (a.put o.dst Go.undef) w := fun e => by
  subst e
  exact next F β _ w (h.put .undef _) (by rw [put_objs]; exact Nat.le_refl _) (fun i hi hn hne _ => ⟨hn, by rw [put_objs]⟩)
 unfold wpOp
 simp only [hi]
 unfold stepOp at hs
 dsimp only at hs
 split at hs
 ·rename_i hg
  rw [if_pos (by simp [Region.wanted, hg])]
  exact .inl (run s' hs rfl)
 ·rename_i j want hg
  split at hs
  ·rename_i t ht
   obtain ⟨y1, y2⟩ := yielded_get h ht
   split at hs
   ·rename_i g hgt
    cases hw : (g == want) with
    | true =>
     simp only [hw, cond_true] at hs
     rw [if_pos (by simp [Region.wanted, hg, y1 g hgt]; simpa using hw)]
     exact .inl (run s' hs rfl)
    | false =>
     simp only [hw, cond_false, Option.some.injEq] at hs
     rw [if_neg (by simp [Region.wanted, hg, y1 g hgt]; simpa using hw)]
     exact skip hs
   ·rename_i hgt
    simp only [Option.some.injEq] at hs
    rw [if_neg (by simp [Region.wanted, hg, y2 hgt])]
    exact skip hs
   ·simp at hs
  ·simp at hs
def extA (a : Act) (g : Array Value) : Act := { a with tmps := a.tmps ++ g }
theorem extA_nil (a : Act) : extA a #[] = a := by cases a; simp [extA]
theorem eval_ext {a : Act} {g : Array Value} {n : Nat} {x : Operand} (ha : a.tmps.size = n) (hx : g = #[] ∨ opdIn n x = true) : (extA a g).eval x = a.eval x := by
 rcases hx with rfl | hx
 ·rw [extA_nil]
 ·cases x with
  | tmp i =>
   have hl : i < a.tmps.size := by rw [ha]; exact Nat.le_of_ble_eq_true hx
   have hl2 : i < a.tmps.size + g.size := Nat.lt_of_lt_of_le hl (Nat.le_add_right _ _)
   simp [Act.eval, extA, Array.getD, hl, hl2]
  | const v => rfl
  | global b => rfl
  | func f => rfl
def dstIn (n : Nat) (d : Option Nat) : Bool := match d with | some d => Nat.blt d n | none => true
theorem put_ext {a : Act} {g : Array Value} {n : Nat} {d : Option Nat} {v : Value} (ha : a.tmps.size = n) (hx : g = #[] ∨ dstIn n d = true) : (extA a g).put d v = extA (a.put d v) g := by
 rcases hx with rfl | hx
 ·rw [extA_nil, extA_nil]
 ·cases d with
  | none => rfl
  | some i =>
   have hl : i < a.tmps.size := by rw [ha]; exact Nat.le_of_ble_eq_true hx
   have e : (a.tmps ++ g).setIfInBounds i v = a.tmps.setIfInBounds i v ++ g := by
    apply Array.ext_getElem?
    intro j
    rw [Array.getElem?_setIfInBounds, Array.getElem?_append, Array.getElem?_append, Array.getElem?_setIfInBounds]
    simp only [Array.size_setIfInBounds, Array.size_append]
    by_cases hj : i = j
    ·subst hj
     have hl2 : i < a.tmps.size + g.size := by omega
     simp [hl, hl2]
    ·simp [hj]
   simp only [Act.put, extA, e]
theorem size_put {a : Act} {d : Option Nat} {v : Value} : (a.put d v).tmps.size = a.tmps.size := by cases d <;> simp [Act.put]
def InN (n : Nat) (g : Array Value) (ops : Array Oper) : Prop := g = #[] ∨ ops.toList.all (operIn n) = true
def RelG (E : Env RT den) (n : Nat) (g : Array Value) (F0 : Was) (w0 : World) (F : Frz) (β : Bet) (s : St RT den) (a : Act) (w : World) : Prop := a.tmps.size = n ∧ Rel E F0 w0 F β s (extA a g) w
theorem RelG.of {F0 : Was} {w0 : World} {F : Frz} {β : Bet} {s : St RT den} {a : Act} {w : World} (h : Rel E F0 w0 F β s a w) : RelG E a.tmps.size #[] F0 w0 F β s a w := ⟨rfl, by rw [extA_nil]; exact h⟩
theorem inN_get {n : Nat} {g : Array Value} {ops : Array Oper} (hw : InN n g ops) {i : Nat} {o : Oper} (ho : ops[i]? = some o) : g = #[] ∨ operIn n o = true := by
 rcases hw with h | h
 ·exact .inl h
 ·rw [List.all_eq_true] at h
  exact .inr (h o (List.mem_of_getElem? (by rw [Array.getElem?_toList]; exact ho)))
theorem operIn_dst {n : Nat} {g : Array Value} {o : Oper} (h : g = #[] ∨ operIn n o = true) : g = #[] ∨ dstIn n o.dst = true := by
 rcases h with h | h
 ·exact .inl h
 ·simp only [operIn, Bool.and_eq_true] at h
  exact .inr h.1
theorem operIn_opd {n : Nat} {g : Array Value} {o : Oper} (h : g = #[] ∨ operIn n o = true) {x : Operand} (hx : x ∈ o.op.operands) : g = #[] ∨ opdIn n x = true := by
 rcases h with h | h
 ·exact .inl h
 ·simp only [operIn, Bool.and_eq_true, List.all_eq_true] at h
  exact .inr (h.2.2 x (by simpa using hx))
theorem wpOp_ext {ops : Array Oper} {n : Nat} {g : Array Value} (hw : InN n g ops) {i : Nat} {K K' : Act → World → Prop} {Q : Exit → Act → World → Prop} {a : Act} {w : World} (ha : a.tmps.size = n)
  (hk : ∀ a' w', a'.tmps.size = n → K' (extA a' g) w' → K a' w') (h : wpOp P ops (fun _ _ _ => False) i K' (extA a g) w) : wpOp P ops Q i K a w := by
 unfold wpOp at h ⊢
 cases ho : ops[i]? with
 | none => rw [ho] at h; exact hk a w ha h
 | some o =>
  rw [ho] at h
  dsimp only at h ⊢
  have hio := inN_get hw ho
  have hd := operIn_dst hio
  have hput : ∀ v, K' ((extA a g).put o.dst v) w → K (a.put o.dst v) w := fun v hv => by
   rw [put_ext ha hd] at hv
   exact hk _ _ (size_put.trans ha) hv
  have hy : ∀ j, yielded ops (extA a g).tmps j = yielded ops a.tmps j := by
   intro j
   unfold yielded
   cases hj : ops[j]? with
   | none => rfl
   | some oj =>
    have hdj := operIn_dst (inN_get hw hj)
    rcases hdj with rfl | hdj
    ·rw [extA_nil]
    ·cases hdd : oj.dst with
     | none => simp [hdd]
     | some d =>
      rw [hdd] at hdj
      have hl : d < a.tmps.size := by rw [ha]; exact Nat.le_of_ble_eq_true hdj
      simp [hdd, extA, Array.getElem?_append, hl]
  have hwn : Region.wanted o (yielded ops (extA a g).tmps) = Region.wanted o (yielded ops a.tmps) := by rw [funext hy]
  rw [hwn] at h
  split
  ·rename_i hwt
   rw [if_pos hwt] at h
   rcases h with h | ⟨_, a1, w1, h⟩
   ·refine .inl ?_
    have he : execOp (extA a g).eval o = execOp a.eval o := by
     rcases hio with rfl | hio
     ·rw [extA_nil]
     ·refine execOp_congr o (fun cs b e => ?_) (fun x hx => eval_ext ha (operIn_opd (.inr hio) hx))
      simp only [operIn, Bool.and_eq_true] at hio
      rw [e] at hio
      simp at hio
    unfold Oper.wp at h ⊢
    rw [he] at h
    generalize (execOp a.eval o).run P w = r at h ⊢
    cases r with
    | ok nx w' =>
     have hput' : ∀ v w', K' ((extA a g).put o.dst v) w' → K (a.put o.dst v) w' := fun v w' hv => by
      rw [put_ext ha hd] at hv
      exact hk _ _ (size_put.trans ha) hv
     cases nx <;> simp only [Oper.upon] at h ⊢
     case value v => exact hput' v w' h
     case skip => exact hput' _ w' h
     case defer d =>
      have e : ({ extA a g with defers := d :: (extA a g).defers } : Act).put o.dst Go.undef = extA (({ a with defers := d :: a.defers } : Act).put o.dst Go.undef) g := put_ext (a := { a with defers := d :: a.defers }) ha hd
      rw [e] at h
      exact hk _ _ (size_put.trans ha) h
     case enter f args =>
      refine Calls.mono h (fun e w'' he => ?_)
      cases e with
      | returned v => exact hput' v w'' he
      | panicked c => exact he.elim
      | outgrown => obtain ⟨_, _, hf⟩ := he; exact hf.elim
     case row f args => exact Rows.mono h (fun v w'' he => hput' v w'' he)
    | halt x w' => cases x <;> simp only [Oper.upon] at h ⊢
   ·exact h.elim
  ·rename_i hwt
   rw [if_neg hwt] at h
   exact hput _ h
theorem step_wpG (hE : Ok E P) (hpc : PrOk E P pc) {n : Nat} {g : Array Value} {F0 : Was} {w0 : World} {F : Frz} {β : Bet} {s s' : St RT den} {a : Act} {w : World} (h : RelG E n g F0 w0 F β s a w) {ops : Array Oper} (hw : InN n g ops) {i al : Nat} {o : Oper} (hi : ops[i]? = some o)
  (hs : stepOp E pc ops (o, al) s = some s') (hal : ∀ t, o.op = .alloc t → β al = none ∧ ∃ cs, E.zero t = some cs ∧ s.objs[al]? = some (.box false cs)) {K : Act → World → Prop} {Q : Exit → Act → World → Prop}
  (next : ∀ F' β' a' w', RelG E n g F0 w0 F' β' s' a' w' → s.objs.length ≤ s'.objs.length → (∀ i, i < s.objs.length → β i = none → ¬ (i = al ∧ isAlloc o.op = true) → (∃ cs, s.objs[i]? = some (.box false cs) ∧ cs.all D.pure = true) → β' i = none ∧ s'.objs[i]? = s.objs[i]?) → K a' w') : wpOp P ops Q i K a w :=
 wpOp_ext hw h.1 (K' := fun a1 w' => ∀ a', a'.tmps.size = n → a1 = extA a' g → K a' w') (fun a' w' hs hk => hk a' hs rfl)
  (step_wp hE hpc h.2 hi hs hal fun F' β' a' w' hr hlen hβ a2 hs2 e => by subst e; exact next F' β' a2 w' ⟨hs2, hr⟩ hlen hβ)
theorem Rel.setPl {F0 : Was} {w0 : World} {F : Frz} {β : Bet} {s : St RT den} {a : Act} {w : World} (h : Rel E F0 w0 F β s a w) {al : Nat} (hβ : β al = none) (hob : s.objs[al]? = some (.box false [])) {τ : RT} {n : Nat} {f : Nat → den τ} :
  Rel E F0 w0 F β { s with objs := s.objs.set al (.row false τ n f) } a w := by
 have hlt := (List.getElem?_eq_some_iff.1 hob).1
 have hs : ∀ (i : Nat), i ≠ al → (s.objs.set al (.row false τ n f))[i]? = s.objs[i]? := fun i hi => List.getElem?_set_ne (Ne.symm hi)
 have ho : (s.objs.set al (.row false τ n f))[al]? = some (.row false τ n f) := by simp [hlt]
 refine ⟨h.defers, h.size, h.slots, fun i ob hi b m hb => ?_, fun i b m hb => ?_, h.inj, h.below, h.frz, h.frz1, h.frz2, fun o' hx => ⟨(h.place o' hx).1, ?_⟩, h.placeH, ?_, h.tab⟩
 rotate_right
 ·refine h.hid.step (fun _ h => h) (fun _ _ h => h) (fun _ _ h => .inl h) (Keeps.refl _ _) (Nat.le_refl _) rfl (fun i b' m' hi => .inl ⟨m', hi⟩) (fun i ob hi hd => ?_) (fun i l' τ' n' p f'' hi b' m' hb' => ?_) (fun _ _ _ _ _ => rfl) (by simp)
  ·show (s.objs.set al _)[i]? = _
   rw [hs i (fun e => by subst e; rw [hob] at hi; cases hi; cases hd)]; exact hi
  ·have hi : (s.objs.set al (.row false τ n f))[i]? = _ := hi
   by_cases e : i = al
   ·subst e; rw [ho] at hi; cases hi
   ·rw [hs i e] at hi; exact ⟨hi, hb', rfl⟩
 ·have hi : (s.objs.set al (.row false τ n f))[i]? = some ob := hi
  have e : i ≠ al := fun e => by subst e; rw [hβ] at hb; cases hb
  rw [hs i e] at hi
  exact h.objs i ob hi b m hb
 ·obtain ⟨n1, n2, n3, n4⟩ := h.names i b m hb
  exact ⟨n1, n2, n3, by simpa using n4⟩
 ·obtain ⟨ob, h1, h2⟩ := (h.place o' hx).2
  have e : o' ≠ al := fun e => by subst e; rw [hob] at h1; cases h1; cases h2
  exact ⟨ob, by show (s.objs.set al _)[o']? = _; rw [hs o' e]; exact h1, h2⟩
theorem Rel.freshAt {F0 : Was} {w0 : World} {F : Frz} {β : Bet} {s : St RT den} {a : Act} {w : World} (h : Rel E F0 w0 F β s a w) {al : Nat} (hβ : β al = none) (hob : s.objs[al]? = some (.box false [])) (c : Array Value) (e : TypeId) {τ : RT} {n : Nat} {f : Nat → den τ}
  (hr : ∀ w', Keeps F w w' → w'.heap[w.heap.size]? = some (.cells c e (0, 0)) → ORep E F w' (β.with al w.heap.size (n, n)) w.heap.size (n, n) (.row false τ n f)) :
  Rel E F0 w0 F (β.with al w.heap.size (n, n)) { s with objs := s.objs.set al (.row false τ n f) } a (w.alloc (.cells c e)) := by
 have hlt := (List.getElem?_eq_some_iff.1 hob).1
 have hg := (h.setPl hβ hob (τ := τ) (n := n) (f := f)).grow (below_alloc w (.cells c e)) (F' := F) (fun _ _ h => h) (fun _ _ h => .inl h) (fun b o hf => by rw [size_alloc']; have := h.frz b o hf; omega)
 have ho : (s.objs.set al (.row false τ n f))[al]? = some (.row false τ n f) := by simp [hlt]
 refine hg.own hβ ho (hr _ (fun b o u hf hc => by rw [(below_alloc w (.cells c e)).cell (p := at' b o) (h.frz b o hf)]; exact hc) (heap_alloc_new w _)) (.inl h.below.size) (by rw [size_alloc']; omega) (fun off hf => by have := h.frz _ _ hf; omega) (fun i m hi => no_new h i m hi) (h.hid.off_new (Nat.le_refl _)) rfl (by show (s.objs.set al _)[al]? ≠ _; rw [ho]; simp) (fun l τ n p f e => by cases e)
theorem lit_wp (hE : Ok E P) {F0 : Was} {w0 : World} {F : Frz} {β : Bet} {s s' : St RT den} {a : Act} {w : World} (h : Rel E F0 w0 F β s a w) {o : Oper} {al : Nat} (hβ : β al = none) (hs : litOp E o al s = some s') {K : Act → World → Prop} {Q : Exit → Act → World → Prop}
  (next : ∀ F' β' a' w', Rel E F0 w0 F' β' s' a' w' → (∀ i, i ≠ al → β' i = β i ∧ s'.objs[i]? = s.objs[i]?) → K a' w') : o.wp P a w K Q := by
 obtain ⟨ob, n, hv, hob, rfl⟩ := litOp_get hs
 obtain ⟨dst, op, ty, pos, after, guard⟩ := o
 have away : ∀ (n' b : Nat) (ob' : Ob RT den) (d : D RT den) i, i ≠ al → (β.with al b (n', n')) i = β i ∧ (({ s with objs := s.objs.set al ob' } : St RT den).put dst d).objs[i]? = s.objs[i]? := fun n' b ob' d i hi => by
  refine ⟨by rw [Bet.with_r, if_neg hi], ?_⟩
  rw [put_objs]
  exact List.getElem?_set_ne (Ne.symm hi)
 simp only [litVal, Option.bind_eq_some_iff] at hv
 obtain ⟨⟨c, r⟩, hv, hc⟩ := hv
 cases c with
 | false => cases hc
 | true =>
 have hc := Option.some.inj hc; subst hc
 unfold litO at hv
 dsimp only at hv
 split at hv
 ·rename_i t len ps
  simp only [Option.bind_eq_some_iff] at hv
  obtain ⟨e, he, τ, hτ, z, hz, zc, hzc, hv⟩ := hv
  split at hv
  ·rename_i hk
   obtain ⟨k1, k2, k3, k4, k5⟩ := hk
   simp only [Option.bind_eq_some_iff, Option.some.injEq, Prod.mk.injEq, true_and] at hv
   obtain ⟨l, hl, rfl, rfl⟩ := hv
   obtain ⟨i, zv, h1, h2, h3, h4, h5, h6⟩ := zero_rep hE hzc
   have hsz := hE.sz e z hz
   have hiz : i.size = z := by simpa [h1] using hsz
   have hps : ps.toList.length = len := by simpa using k1
   have hzz : E.size τ = z := hE.rt e τ z hτ hz
   obtain ⟨vs, v1, v2, v3, v4, v5⟩ := elems_rep hE h τ z len hzz ps.toList 0 l ((Array.range (len * z)).map (zv.cells[· % zv.cells.size]!)) hl (by simp) (by omega)
   have hsm : len * z ≤ 1000 * 1000 := Nat.mul_le_mul k2 k3
   have hpos : len * z ≠ 0 := Nat.mul_ne_zero (by omega) (by omega)
   have hrun := run_buildSlice (P := P) w t e len (ps.map fun (x : Nat × Operand) => (x.1, a.eval x.2)) vs i zv (hE.elem t e he) h1 h2 (by rw [hiz]; omega) (by rw [hiz]; exact hpos) (by rw [hiz]; simpa using v1)
   have hf := h.freshAt hβ hob vs e (τ := τ) (n := len) (f := fun i => l.getD i (E.dflt τ)) (fun w' hkp hh => ⟨rfl, ⟨Nat.le_refl _, by show len ≤ 9223372036854775807; omega⟩, _, e, hh, by rw [v2, hzz], fun i' j c' hi' hc' => by
    have hil : i' < l.length := by omega
    have e1 : l.getD i' (E.dflt τ) = l[i'] := by simp [List.getD_eq_getElem?_getD, hil]
    replace hc' : (E.cells τ (l.getD i' (E.dflt τ)))[j]? = some c' := hc'
    rw [e1] at hc'
    have := v5 i' l[i'] j c' (List.getElem?_eq_getElem hil) hc'
    rw [Nat.zero_add] at this
    rw [hzz]
    exact this.mono (fun _ _ h => h) hkp (Bet.le_refl _)⟩)
   exact wp_value' (v := .slice (some (at' w.heap.size 0)) len len) (w' := w.alloc (.cells vs e)) (by simp [execOp, hrun, at']) (next F _ _ _ (hf.put (.os _ len len _ (len, len) (by simp [Bet.with_r]) ⟨Nat.le_refl _, rfl⟩ (Nat.le_refl _)) dst) (away len _ _ _))
  ·cases hv
 ·rename_i t l c
  simp only [Option.bind_eq_some_iff] at hv
  obtain ⟨e, he, by', hby, τ, hτ, zc, hzc, y, hy, hv⟩ := hv
  have hl := ev_rep h 0 l
  have hc := ev_rep h 0 c
  generalize E.ev s 0 l = dl at hl hv
  generalize E.ev s 0 c = dc at hc hv
  split at hv
  ·rename_i k n' k' m
   simp only [Option.some.injEq, Prod.mk.injEq, Bool.and_eq_true, decide_eq_true_eq] at hv
   obtain ⟨⟨hk1, hk2, hk3, hk4⟩, rfl, rfl⟩ := hv
   subst hk2
   obtain ⟨i, z, h1, h2, h3, h4, h5, h6⟩ := zero_rep hE hzc
   have hib : i.bytes = by' := by have := hE.bytes e by' hby; simpa [h1] using this
   have hcs := hE.dec τ _ y hy
   have hts : E.size τ = zc.length := by rw [← hE.size τ y, hcs]; simp
   have hrun := run_make (P := P) w t e i z (hE.elem t e he) h1 h2 k k' n' n' hk1 (Int.le_refl _) (by rw [hib]; exact hk3) hk4
   have hf := h.freshAt hβ hob (madeCells z.cells (n'.toNat * i.size)) e (τ := τ) (n := n'.toNat) (f := fun _ => y) (fun w' hkp hh => ⟨rfl, ⟨Nat.le_refl _, by show n'.toNat ≤ _; omega⟩, _, e, hh, by rw [size_madeCells, hts, h4], fun i' j c' hi' hc' => by
    have hjz : j < z.cells.size := by rw [h3, ← hts, ← hE.size τ y]; exact (List.getElem?_eq_some_iff.1 hc').1
    rw [hts, ← h3, h4, ← h3, madeCells_get _ _ _ _ hjz (by
     have : (i' + 1) * z.cells.size ≤ n'.toNat * z.cells.size := Nat.mul_le_mul_right _ hi'
     rw [Nat.add_mul, Nat.one_mul] at this
     omega)]
    rw [hcs, List.getElem?_map] at hc'
    cases hq : zc[j]? with
    | none => simp [hq] at hc'
    | some d' =>
     simp only [hq, Option.map_some, Option.some.injEq] at hc'
     rw [← hc']
     exact nrm_rep τ (h6 F w' j d' hq)⟩)
   exact wp_value' (v := .slice (some (at' w.heap.size 0)) n'.toNat n'.toNat) (w' := w.alloc (.cells (madeCells z.cells (n'.toNat * i.size)) e)) (by simp [execOp, hl.toInt, hc.toInt, hrun, at']) (next F _ _ _ (hf.put (.os _ n'.toNat n'.toNat _ (n'.toNat, n'.toNat) (by simp [Bet.with_r]) ⟨Nat.le_refl _, rfl⟩ (Nat.le_refl _)) dst) (away n'.toNat _ _ _))
  ·simp at hv
 ·cases hv
theorem litO_guard {o : Oper} {s : St RT den} {r : Bool × Ob RT den × Nat} (h : litO E o s = some r) : o.guard = none := by
 unfold litO at h
 split at h
 ·assumption
 ·assumption
 ·cases h
theorem litOp_guard {o : Oper} {al : Nat} {s s' : St RT den} (h : litOp E o al s = some s') : o.guard = none := by
 obtain ⟨ob, n, hv, _, _⟩ := litOp_get h
 simp only [litVal, Option.bind_eq_some_iff] at hv
 obtain ⟨r, hv, _⟩ := hv
 exact litO_guard hv
theorem lit_wpG (hE : Ok E P) {n : Nat} {g : Array Value} {F0 : Was} {w0 : World} {F : Frz} {β : Bet} {s s' : St RT den} {a : Act} {w : World} (h : RelG E n g F0 w0 F β s a w) {ops : Array Oper} (hw : InN n g ops) {i : Nat} {o : Oper} (hi : ops[i]? = some o)
  {al : Nat} (hβ : β al = none) (hs : litOp E o al s = some s') {K : Act → World → Prop} {Q : Exit → Act → World → Prop} (next : ∀ F' β' a' w', RelG E n g F0 w0 F' β' s' a' w' → (∀ i, i ≠ al → β' i = β i ∧ s'.objs[i]? = s.objs[i]?) → K a' w') : wpOp P ops Q i K a w :=
 wpOp_ext hw h.1 (K' := fun a1 w' => ∀ a', a'.tmps.size = n → a1 = extA a' g → K a' w') (fun a' w' hs hk => hk a' hs rfl) (by
  unfold wpOp
  rw [hi]
  dsimp only
  rw [if_pos (by simp [Region.wanted, litOp_guard hs])]
  exact .inl (lit_wp hE h.2 hβ hs fun F' β' a' w' hr hβ' a2 hs2 e => by subst e; exact next F' β' a2 w' ⟨hs2, hr⟩ hβ'))
def Ex.to : Ex → Exit
 | .normal => .normal
 | .exit i => .exit i
 | .ret => .ret
def InlOk (E : Env RT den) (P : Program) {ρ : Type} (lp : Lp RT den ρ) (r : ρ) : Prop := ∀ site f s k, lp.inl site f s k = some r → ∃ fn c, E.fn f = some fn ∧ fn.body = some c ∧ (fn.name == "runtime.NumGoroutine") = false ∧
 ∀ (g : Array Value) (F0 : Was) (w0 : World) (F : Frz) (β : Bet) (a : Act) (w : World) (Q : Exit → Act → World → Prop), RelG E fn.ntmps g F0 w0 F β s a w →
  (∀ e F' β' s' a' w', RelG E fn.ntmps g F0 w0 F' β' s' a' w' → k e s' = some r → Q e.to a' w') → c.wp P Q a w
def Pend (E : Env RT den) (β : Bet) (s : St RT den) (l : List (Oper × Nat)) : Prop := ∀ p ∈ l, ∀ t, p.1.op = .alloc t → β p.2 = none ∧ ∃ cs, E.zero t = some cs ∧ s.objs[p.2]? = some (.box false cs)
def Apart (l : List (Oper × Nat)) : Prop := l.Pairwise fun p q => isAlloc p.1.op = true → isAlloc q.1.op = true → p.2 ≠ q.2
theorem Pend.step (hE : Ok E P) {β β' : Bet} {s s' : St RT den} {p : Oper × Nat} {l : List (Oper × Nat)} (h : Pend E β s l) (hp : ∀ q ∈ l, isAlloc p.1.op = true → isAlloc q.1.op = true → p.2 ≠ q.2)
  (hs : ∀ i, i < s.objs.length → β i = none → ¬ (i = p.2 ∧ isAlloc p.1.op = true) → (∃ cs, s.objs[i]? = some (.box false cs) ∧ cs.all D.pure = true) → β' i = none ∧ s'.objs[i]? = s.objs[i]?) : Pend E β' s' l := by
 intro q hq t ht
 obtain ⟨h1, cs, h2, h3⟩ := h q hq t ht
 have hlt := (List.getElem?_eq_some_iff.1 h3).1
 obtain ⟨h4, h5⟩ := hs q.2 hlt h1 (fun e => hp q hq e.2 (by simp [ht, isAlloc]) e.1.symm) ⟨cs, h3, by obtain ⟨z, _, _, _, hp, _⟩ := hE.zero t cs h2; exact hp⟩
 exact ⟨h4, cs, h2, by rw [h5]; exact h3⟩
inductive Anc (ops : Array Oper) : Nat → Nat → Prop
 | edge {i : Nat} {o : Oper} {e : Edge} : ops[i]? = some o → e ∈ o.after.toList → Region.binds .any e = true → Anc ops i e.on
 | far {i y : Nat} {o : Oper} {e : Edge} : ops[i]? = some o → e ∈ o.after.toList → Region.binds .any e = true → Anc ops e.on y → Anc ops i y
theorem mask_one {ops : Array Oper} {i : Nat} {o : Oper} (ho : ops[i]? = some o) (acc : List Nat) (hacc : ∀ i y, (acc.getD i 0).testBit y = true → Anc ops i y) : ∀ (l : List Edge) (m : Nat), (∀ e ∈ l, e ∈ o.after.toList) → (∀ y, m.testBit y = true → Anc ops i y) →
  ∀ y, (l.foldl (fun s e => bif Region.binds .any e then s ||| 2 ^ e.on ||| acc.getD e.on 0 else s) m).testBit y = true → Anc ops i y
 | [], m, _, hm, y, hy => hm y hy
 | e :: l, m, hl, hm, y, hy => by
  rw [List.foldl_cons] at hy
  refine mask_one ho acc hacc l _ (fun e' h' => hl e' (by simp [h'])) (fun y hy => ?_) y hy
  cases hb : Region.binds .any e with
  | false => rw [hb] at hy; exact hm y hy
  | true =>
   rw [hb] at hy
   simp only [cond_true, Nat.testBit_or, Bool.or_eq_true] at hy
   rcases hy with (hy | hy) | hy
   ·exact hm y hy
   ·rw [Nat.testBit_two_pow] at hy
    have : e.on = y := by simpa using hy
    subst this
    exact .edge ho (hl e (by simp)) hb
   ·exact .far ho (hl e (by simp)) hb (hacc _ _ hy)
theorem masks_sound {ops : Array Oper} : ∀ (l : List Oper) (acc : List Nat), (∀ j o, l[j]? = some o → ops[acc.length + j]? = some o) → (∀ i y, (acc.getD i 0).testBit y = true → Anc ops i y) → ∀ i y, ((masks l acc).getD i 0).testBit y = true → Anc ops i y
 | [], acc, _, hacc, i, y, h => hacc i y h
 | o :: l, acc, hl, hacc, i, y, h => by
  have ho := hl 0 o rfl
  rw [Nat.add_zero] at ho
  refine masks_sound l _ (fun j o' hj => ?_) (fun i y hiy => ?_) i y h
  ·rw [List.length_append, List.length_singleton, Nat.add_assoc, Nat.add_comm 1 j]
   exact hl (j + 1) o' hj
  ·rw [List.getD_eq_getElem?_getD, List.getElem?_append] at hiy
   split at hiy
   ·exact hacc i y (by rw [List.getD_eq_getElem?_getD]; exact hiy)
   ·rename_i hge
    by_cases hz : i - acc.length = 0
    ·have : i = acc.length := by omega
     subst this
     simp only [Nat.sub_self, List.getElem?_cons_zero, Option.getD_some] at hiy
     exact mask_one ho acc hacc _ 0 (fun _ h => h) (by simp) y hiy
    ·have : ([o.after.toList.foldl (fun s e => bif Region.binds .any e then s ||| 2 ^ e.on ||| acc.getD e.on 0 else s) 0])[i - acc.length]? = none := by
      rw [List.getElem?_eq_none]; simp; omega
     rw [this] at hiy
     simp at hiy
def readVar (tmps : Array Value) : ResultVar → Sem Value
 | .tmp t => pure (tmps.getD t Go.undef)
 | .cell a t => do loadVar t (← asAddr (tmps.getD a Go.undef))
def retVal : List Value → Value
 | [v] => v
 | vs => .tuple vs.toArray
theorem run_results {fn : Func} {tmps : Array Value} {w : World} {vs : List Value} (h : (fn.results.toList.mapM (readVar tmps)).run P w = .ok vs w) :
  (Go.results fn tmps).run P w = .ok (retVal vs) w := by
 have e : Go.results fn tmps = (fn.results.mapM (readVar tmps) >>= fun vs => pure (if h : vs.size = 1 then vs[0] else .tuple vs)) := by
  unfold Go.results
  congr
 rw [e, Array.mapM_eq_mapM_toList]
 simp only [Sem.run_bind, Sem.run_map]
 rw [h]
 simp only [Result.andThen_ok, Sem.run_pure]
 match vs with
 | [] => rfl
 | [v] => rfl
 | v :: v' :: vs => rfl
theorem readVar_rep (hE : Ok E P) {F0 : Was} {w0 : World} {F : Frz} {β : Bet} {s : St RT den} {a : Act} {w : World} (h : Rel E F0 w0 F β s a w) {x : ResultVar} {d : D RT den} (hd : result E s x = some d) : ∃ v, (readVar a.tmps x).run P w = .ok v w ∧ VRep E F w β d v := by
 cases x with
 | tmp t =>
  simp only [result, Option.some.injEq] at hd; subst hd
  exact ⟨_, rfl, get_rep h t⟩
 | cell p t =>
  simp only [result] at hd
  have hp := get_rep h p
  obtain ⟨v, hv1, hv2⟩ := load_rep hE h hp hd
  refine ⟨v, ?_, hv2⟩
  simp only [load, Option.bind_eq_some_iff] at hd
  obtain ⟨cs, hcs, _⟩ := hd
  obtain ⟨b, o, u, hvp, _⟩ := cellsAt_rep hE h hp hcs
  rw [hvp] at hv1
  simp only [readVar, hvp, asAddr]
  simpa [Instr.loadAt, Instr.sureAddr] using hv1
theorem resM_rep (hE : Ok E P) {F0 : Was} {w0 : World} {F : Frz} {β : Bet} {s : St RT den} {a : Act} {w : World} (h : Rel E F0 w0 F β s a w) :
  ∀ (l : List ResultVar) (ds : List (D RT den)), resM E s l = some ds → ∃ vs : List Value, (l.mapM (readVar a.tmps)).run P w = .ok vs w ∧ vs.length = ds.length ∧ ∀ (j : Nat) c, ds[j]? = some c → VRep E F w β c (vs.getD j Go.undef)
 | [], ds, hr => by
  simp [resM] at hr; subst hr
  exact ⟨[], by simp, rfl, by simp⟩
 | x :: l, ds, hr => by
  simp only [resM, Option.bind_eq_some_iff] at hr
  obtain ⟨d, hd, ds', hds, hr⟩ := hr
  have hr := Option.some.inj hr; subst hr
  obtain ⟨vs, v1, v2, v3⟩ := resM_rep hE h l ds' hds
  obtain ⟨v, hv1, hv2⟩ := readVar_rep hE h hd
  refine ⟨v :: vs, by simp [List.mapM_cons, hv1, v1], by simp [v2], fun j c hc => ?_⟩
  cases j with
  | zero => simp at hc; subst hc; exact hv2
  | succ j => simpa using v3 j c (by simpa using hc)
theorem getD_app (x y : Array Value) (i : Nat) : (x ++ y).getD i Go.undef = if i < x.size then x.getD i Go.undef else y.getD (i - x.size) Go.undef := by
 simp only [Array.getD_eq_getD_getElem?, Array.getElem?_append]
 split <;> rfl
theorem getD_rep (n i : Nat) : (Array.replicate n Go.undef).getD i Go.undef = Go.undef := by
 by_cases h : i < n <;> simp [Array.getD, h]
theorem Rel.dropG {F0 : Was} {w0 : World} {F : Frz} {β : Bet} {s : St RT den} {a a' : Act} {w : World} {n m : Nat} {g : Array Value} (ha : a.tmps.size = n) (ha' : a'.tmps.size = m) (hd : a.defers = []) (h : Rel E F0 w0 F β s (extA a' (a.tmps ++ g)) w) :
  Rel E F0 w0 F β ⟨s.slots.drop m, s.objs⟩ (extA a g) w := by
 refine ⟨hd, ?_, fun i d hi => ?_, h.objs, h.names, h.inj, h.below, h.frz, h.frz1, h.frz2, h.place, h.placeH, h.hid, h.tab⟩
 ·have := h.size
  simp only [extA, Array.size_append, List.length_drop] at this ⊢
  omega
 ·have hi : (s.slots.drop m)[i]? = some d := hi
  rw [List.getElem?_drop] at hi
  have := h.slots _ d hi
  have hl : m + i < s.slots.length := (List.getElem?_eq_some_iff.1 hi).1
  have hsz := h.size
  simp only [extA, Array.size_append] at hsz this ⊢
  have e : (a'.tmps ++ (a.tmps ++ g)).getD (m + i) Go.undef = (a.tmps ++ g).getD i Go.undef := by
   rw [getD_app a'.tmps, if_neg (by omega), show m + i - a'.tmps.size = i by omega]
  rw [e] at this
  exact this
theorem Rel.pushG {F0 : Was} {w0 : World} {F : Frz} {β : Bet} {s : St RT den} {a : Act} {w : World} {n m : Nat} {g vs : Array Value} {ds : List (D RT den)} (ha : a.tmps.size = n) (h : Rel E F0 w0 F β s (extA a g) w) (hl : ds.length = vs.size) (hm : ds.length ≤ m)
  (hds : ∀ i x, ds[i]? = some x → VRep E F w β x (vs.getD i Go.undef)) : Rel E F0 w0 F β (stI m ds s) (extA { tmps := vs ++ Array.replicate (m - vs.size) Go.undef, defers := [] } (a.tmps ++ g)) w := by
 refine ⟨rfl, ?_, fun i d hi => ?_, h.objs, h.names, h.inj, h.below, h.frz, h.frz1, h.frz2, h.place, h.placeH, h.hid, h.tab⟩
 ·have := h.size
  simp only [extA, stI, Array.size_append, List.length_append, List.length_replicate, Array.size_replicate] at this ⊢
  omega
 ·have hi : (ds ++ (List.replicate (m - ds.length) D.undef ++ s.slots))[i]? = some d := hi
  simp only [extA]
  have hsz := h.size
  simp only [extA, Array.size_append] at hsz
  rw [List.getElem?_append] at hi
  split at hi
  ·rename_i hlt
   have e : (vs ++ Array.replicate (m - vs.size) Go.undef ++ (a.tmps ++ g)).getD i Go.undef = vs.getD i Go.undef := by
    rw [getD_app, if_pos (by simp; omega), getD_app, if_pos (by omega)]
   rw [e]
   exact hds i d hi
  ·rename_i hge
   rw [List.getElem?_append, List.length_replicate] at hi
   split at hi
   ·rename_i hlt
    rw [List.getElem?_replicate, if_pos hlt] at hi
    cases hi
    have e : (vs ++ Array.replicate (m - vs.size) Go.undef ++ (a.tmps ++ g)).getD i Go.undef = Go.undef := by
     rw [getD_app, if_pos (by simp; omega), getD_app, if_neg (by omega), getD_rep]
    rw [e]; exact .undef
   ·rename_i hge2
    have hl2 := (List.getElem?_eq_some_iff.1 hi).1
    have := h.slots _ d hi
    have e : (vs ++ Array.replicate (m - vs.size) Go.undef ++ (a.tmps ++ g)).getD i Go.undef = (a.tmps ++ g).getD (i - ds.length - (m - ds.length)) Go.undef := by
     rw [getD_app, if_neg (by simp; omega)]
     congr 1
     simp
     omega
    rw [e]
    exact this
theorem readVar_ext {a : Act} {g : Array Value} {n : Nat} {x : ResultVar} (ha : a.tmps.size = n) (hx : resIn n x = true) : readVar (extA a g).tmps x = readVar a.tmps x := by
 cases x with
 | tmp t =>
  have hl : t < a.tmps.size := by rw [ha]; exact Nat.le_of_ble_eq_true hx
  simp only [readVar, extA, getD_app, if_pos hl]
 | cell p t =>
  have hl : p < a.tmps.size := by rw [ha]; exact Nat.le_of_ble_eq_true hx
  simp only [readVar, extA, getD_app, if_pos hl]
theorem mapM_same {f g : ResultVar → Sem Value} : ∀ (l : List ResultVar), (∀ x ∈ l, f x = g x) → l.mapM f = l.mapM g
 | [], _ => rfl
 | x :: l, h => by
  rw [List.mapM_cons, List.mapM_cons, h x (by simp), mapM_same l (fun y hy => h y (by simp [hy]))]
theorem inl_wp (hE : Ok E P) {ρ : Type} {lp : Lp RT den ρ} {r : ρ} (hin : InlOk E P lp r) {n : Nat} {g : Array Value} {F0 : Was} {w0 : World} {F : Frz} {β : Bet} {s : St RT den} {a : Act} {w : World} (h : RelG E n g F0 w0 F β s a w) {o : Oper}
  (hio : g = #[] ∨ operIn n o = true) {site : Nat} {k : St RT den → Option ρ} (hv : inlOp E lp site o s k = some r) {K : Act → World → Prop} {Q : Exit → Act → World → Prop} (next : ∀ F' β' s' a' w', RelG E n g F0 w0 F' β' s' a' w' → k s' = some r → K a' w') : o.wp P a w K Q := by
 obtain ⟨dst, op, ty, pos, after, guard⟩ := o
 have hdst := operIn_dst hio
 have hopd := fun {x : Operand} (hx : x ∈ op.operands) => eval_ext (x := x) h.1 (operIn_opd hio hx)
 have hdf : a.defers = [] := h.2.defers
 unfold inlOp at hv
 dsimp only at hv
 split at hv
 ·rename_i f0 args argTypes
  have hf := ev_rep h.2 0 f0
  rw [hopd (by simp [Op.operands, Call.operands])] at hf
  generalize E.ev s 0 f0 = df at hf hv
  obtain ⟨vf, hvf⟩ : ∃ v, a.eval f0 = v := ⟨_, rfl⟩
  rw [hvf] at hf
  cases hf <;> try (simp only [reduceCtorEq] at hv; done)
  rename_i f cap vs h1 h2
  dsimp only at hv
  split at hv
  ·rename_i fn hfn
   cases hc : Nat.ble (E.args s (E.par f) args.toList ++ cap).length fn.ntmps && fn.results.toList.all (resIn fn.ntmps) with
   | false => rw [hc] at hv; cases hv
   | true =>
    rw [hc] at hv
    simp only [cond_true] at hv
    simp only [Bool.and_eq_true] at hc
    obtain ⟨hble, hres⟩ := hc
    have hble := Nat.le_of_ble_eq_true hble
    obtain ⟨fn', c, hfn', hb, hname, hwp⟩ := hin site f _ _ hv
    rw [hfn] at hfn'; cases hfn'
    obtain ⟨a1, a2⟩ := args_rep h.2 (E.par f) args.toList
    have hP := hE.fn f fn hfn
    unfold Oper.wp
    have hrun : (execOp a.eval ⟨dst, .call ⟨.value f0, args, argTypes⟩, ty, pos, after, guard⟩).run P w = .ok (.enter f (args.map a.eval ++ vs)) w := by
     simp [execOp, resolve, hvf, Deferred.ofValue, invoke, run_callFunc ⟨fn, hP, by simp [hb], hname⟩]
    rw [hrun]
    have hmap : args.map (extA a g).eval = args.map a.eval := Array.map_congr_left fun x hx => hopd (by simp [Op.operands, Call.operands, hx])
    have hds : ∀ i x, (E.args s (E.par f) args.toList ++ cap)[i]? = some x → VRep E F w β x ((args.map a.eval ++ vs).getD i Go.undef) := fun i x hx => by
     rw [List.getElem?_append] at hx
     split at hx
     ·rename_i hlt
      have := a2 i x hx
      rw [← Array.toList_map, getD_toList, hmap] at this
      have hi : i < args.size := by rw [a1] at hlt; simpa using hlt
      have e : (args.map a.eval ++ vs).getD i Go.undef = (args.map a.eval).getD i Go.undef := by
       have hi2 : i < args.size + vs.size := by omega
       simp [Array.getD, hi, hi2]
      rw [e]; exact this
     ·rename_i hge
      have hi : args.size ≤ i := by rw [a1] at hge; simpa using hge
      have := h2 _ x hx
      rw [a1] at this
      have hlt : i - args.toList.length < vs.size := by
       have := (List.getElem?_eq_some_iff.1 hx).1
       rw [a1] at this; omega
      have e : (args.map a.eval ++ vs).getD i Go.undef = vs.getD (i - args.toList.length) Go.undef := by
       have hi1 : ¬ i < args.size := by omega
       have hlt' : i - args.size < vs.size := by simpa using hlt
       have hi2 : i < args.size + vs.size := by omega
       simp [Array.getD, hi2, hlt', Array.getElem_append, hi1]
      rw [e]; exact this
    have hlen : (E.args s (E.par f) args.toList ++ cap).length = (args.map a.eval ++ vs).size := by simp [a1, h1]
    have h0 := Rel.pushG h.1 h.2 hlen hble hds
    have hsz : (args.map a.eval ++ vs ++ Array.replicate (fn.ntmps - (args.map a.eval ++ vs).size) Go.undef).size = fn.ntmps := by
     rw [hlen] at hble
     rw [Array.size_append, Array.size_replicate]
     omega
    refine Calls.mono (calls_of_wp (R := fun e w'' => ∃ v, e = .returned v ∧ K (a.put dst v) w'') hP hb (hwp (a.tmps ++ g) F0 w0 F β _ w _ ⟨hsz, h0⟩ (fun e F' β' s' a' w' hr hk => ?_))) ?_
    ·have fin : (resM E s' fn.results.toList).bind (fun ds => k ((⟨s'.slots.drop fn.ntmps, s'.objs⟩ : St RT den).put dst (retOf ds))) = some r → a'.defers = [] ∧ ∃ v, (Go.results fn a'.tmps).run P w' = .ok v w' ∧ ∃ v', Ending.returned v = .returned v' ∧ K (a.put dst v') w' := by
      intro hk
      simp only [Option.bind_eq_some_iff] at hk
      obtain ⟨ds, hds, hk⟩ := hk
      obtain ⟨us, u1, u2, u3⟩ := resM_rep hE hr.2 _ ds hds
      have e1 : fn.results.toList.mapM (readVar (extA a' (a.tmps ++ g)).tmps) = fn.results.toList.mapM (readVar a'.tmps) := mapM_same _ fun x hx => readVar_ext hr.1 (by
       rw [List.all_eq_true] at hres
       exact hres x hx)
      rw [e1] at u1
      have hvr : VRep E F' w' β' (retOf ds) (retVal us) := by
       match us, ds, u2, u3 with
       | [], [], _, _ => exact .tup [] #[] rfl (by simp)
       | [v], [d], _, u3 => exact u3 0 d rfl
       | v :: v' :: us, d :: d' :: ds, u2, u3 =>
        refine .tup _ _ (by simp at u2 ⊢; omega) (fun j c hc => ?_)
        have := u3 j c hc
        rw [← getD_toList]
        exact this
      have hback := Rel.dropG h.1 hr.1 hdf hr.2
      refine ⟨hr.2.defers, _, run_results u1, _, rfl, next F' β' _ _ w' ⟨size_put.trans h.1, ?_⟩ hk⟩
      rw [← put_ext h.1 hdst]
      exact hback.put hvr _
     cases e with
     | normal => exact fin hk
     | ret => exact fin hk
     | exit i => simp [finI] at hk
    ·rintro e w'' ⟨v, rfl, hk⟩
     exact hk
  ·cases hv
 ·cases hv
end Go.Proofs.Ytcmfekgdlaffkaa.Vm

