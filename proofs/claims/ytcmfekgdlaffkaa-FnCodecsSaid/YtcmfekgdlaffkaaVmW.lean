
/- The value machine: operations that make or turn an object, on the machine. Conditions: none. -/
import Derived.Test.YtcmfekgdlaffkaaVmQ
namespace Go.Proofs.Ytcmfekgdlaffkaa.Vm
open Go Go.RowKit
set_option linter.unusedVariables false
set_option linter.unusedSimpArgs false
variable {RT : Type} {den : RT → Type} {E : Env RT den} {P : Program}
theorem copy_wp (hE : Ok E P) {F0 : Was} {w0 : World} {F : Frz} {β : Bet} {s : St RT den} {a : Act} {w : World} (h : Rel E F0 w0 F β s a w) {t t' ty e z : Nat} (he : E.elem t = some e) (hz : E.sz e = some z) {dx d0 : D RT den} {vx vy : Value} (hx : VRep E F w β dx vx) (hy : VRep E F w β d0 vy) {d : D RT den} {os : List (Ob RT den)}
  (hv : copyTo E s.objs z dx (rdPart E s.objs d0) = some (d, os)) : ∃ v w', (Builtin.copy_ #[t, t'] ty #[vx, vy]).run P w = .ok v w' ∧ Rel E F0 w0 F β { s with objs := os } a w' ∧ (∀ F' w' β', VRep E F' w' β' d v) ∧
   ∀ i, i < s.objs.length → β i = none → (∃ cs, s.objs[i]? = some (.box false cs) ∧ cs.all D.pure = true) → os[i]? = s.objs[i]? := by simp [copyTo] at hv
theorem eff_wp (hE : Ok E P) {F0 : Was} {w0 : World} {F : Frz} {β : Bet} {s : St RT den} {a : Act} {w : World} (h : Rel E F0 w0 F β s a w) (o : Oper) {d : D RT den} {os : List (Ob RT den)}
  (hv : eff E s o.type o.op = some (d, os)) {K : Act → World → Prop} {Q : Exit → Act → World → Prop}
  (next : ∀ F' β' v w', Rel E F0 w0 F' β' (({ s with objs := os } : St RT den).kill (victim E s o.op)) a w' → VRep E F' w' β' d v → (∀ i, i < s.objs.length → β i = none → (∃ cs, s.objs[i]? = some (.box false cs) ∧ cs.all D.pure = true) → β' i = none ∧ os[i]? = s.objs[i]?) → K (a.put o.dst v) w') : o.wp P a w K Q := by
 obtain ⟨dst, op, ty, pos, after, guard⟩ := o
 cases op <;> (try dsimp only at hv) <;> unfold eff at hv <;> (try dsimp only at hv) <;> try (simp only [reduceCtorEq] at hv; done)
 case box t x =>
  cases hfl : (E.ev s t x).cells.all D.flat with
  | false => simp [hfl] at hv
  | true =>
   simp only [hfl, cond_true, Option.some.injEq, Prod.mk.injEq] at hv
   obtain ⟨rfl, rfl⟩ := hv
   obtain ⟨c1, c2, c3⟩ := (ev_rep h t x).cells hfl
   have hle := Bet.le_with (β := β) w.heap.size (0, 0) h.last
   refine wp_value' (v := .pointer (some (at' w.heap.size 0))) (w' := w.alloc (.cells (a.eval x).cells t)) (by simp [execOp, Instr.box, newVar, newRow, at'])
    (next F _ _ _ (h.fresh (a.eval x).cells t (0, 0) (.box false (E.ev s t x).cells) (fun w' hk hh => ⟨_, t, hh, c1.symm, fun j c hc => (c2 j c hc).mono (fun _ _ h => h) hk hle⟩)) (.ref _ 0 _ (0, 0) (by simp [Bet.with_r])) (fun i hi hn _ => ⟨?_, List.getElem?_append_left hi⟩))
   rw [Bet.with_r, if_neg (by omega)]
   exact hn
 case store t x y =>
  simp only [Option.bind_eq_some_iff] at hv
  obtain ⟨n, hn, hv⟩ := hv
  cases hfl : (E.ev s t y).cells.all D.flat && decide ((E.ev s t y).cells.length = n) with
  | false => simp [hfl] at hv
  | true =>
   simp only [hfl, cond_true] at hv
   simp only [Bool.and_eq_true, decide_eq_true_eq] at hfl
   obtain ⟨hfl, hlen⟩ := hfl
   obtain ⟨c1, c2, c3⟩ := (ev_rep h t y).cells hfl
   have hx := ev_rep h 0 x
   generalize E.ev s 0 x = dx at hx hv
   obtain ⟨vx, hvx⟩ : ∃ v, a.eval x = v := ⟨_, rfl⟩
   rw [hvx] at hx
   have hsize : (a.eval y).cells.size = n := by omega
   cases hx <;> try (simp only [reduceCtorEq] at hv; done)
   ·rename_i o off b m hb
    dsimp only at hv
    split at hv
    ·rename_i cs hob
     simp only [Option.bind_eq_some_iff] at hv
     obtain ⟨cs', hput, hv⟩ := hv
     simp only [Option.some.injEq, Prod.mk.injEq] at hv
     obtain ⟨rfl, rfl⟩ := hv
     obtain ⟨cur, e, hh, hsz, hr⟩ := h.objs o _ (obj_some hob (by simp)) b m hb
     obtain ⟨p1, p2, p3⟩ := put_get hput
     have hfit : off + n ≤ cur.size := by omega
     have hrun := run_storeAt hE hn hsize hh hfit c3
     refine wp_skip' (w' := w.setRow b (cur.toList.take off ++ (a.eval y).cells.toList ++ cur.toList.drop (off + n)).toArray) (by simp only [execOp, hvx, Sem.run_bind, hrun, Result.andThen_ok, Sem.run_pure])
      (next F β _ _ (h.turn hb _ (.box _ cs') (fun ob' ho' hle => by rw [obj_some hob (by simp)] at ho'; cases ho'; exact hle) (fun ob' ho' => by rw [obj_some hob (by simp)] at ho'; cases ho'; rfl) rfl ⟨_, e, setRow_heap w b cur _ e _ hh, by simp; omega, fun j c hc => ?_⟩) .undef (fun i hi hno _ => ⟨hno, List.getElem?_set_ne (fun e => by subst e; rw [hb] at hno; cases hno)⟩))
     have hj := p3 j c hc
     have hl := laid_get cur.toList (a.eval y).cells.toList off (by simp; omega) j
     simp only [Array.length_toList, hsize] at hl
     have e2 : (cur.toList.take off ++ (a.eval y).cells.toList ++ cur.toList.drop (off + n)).toArray.getD j Go.undef = (cur.toList.take off ++ (a.eval y).cells.toList ++ cur.toList.drop (off + n)).getD j Go.undef := by rw [← getD_toList]
     rw [e2, hl]
     have hk := keeps_setRow h hb (cur.toList.take off ++ (a.eval y).cells.toList ++ cur.toList.drop (off + n)).toArray
     rw [hlen] at hj
     split at hj
     ·rename_i hin
      rw [if_pos hin, getD_toList]
      exact (c2 _ c hj).mono (fun _ _ h => h) hk (Bet.le_refl _)
     ·rename_i hin
      rw [if_neg hin, getD_toList]
      exact (hr j c hj).mono (fun _ _ h => h) hk (Bet.le_refl _)
    ·simp at hv
   ·rename_i o z k off b m hkm hb
    dsimp only at hv
    split at hv
    ·rename_i τ m' f hob
     split at hv
     ·rename_i hk1
      have hk2 := hkm
      simp only [Option.bind_eq_some_iff] at hv
      obtain ⟨cs', hput, y', hdec, hv⟩ := hv
      simp only [Option.some.injEq, Prod.mk.injEq] at hv
      obtain ⟨rfl, rfl⟩ := hv
      obtain ⟨hmm, ⟨hm1, hm2⟩, cur, e, hh, hsz, hr⟩ := h.objs o _ (obj_some hob (by simp)) b m hb
      subst hmm
      obtain ⟨p1, p2, p3⟩ := put_get hput
      have hcs := hE.dec τ _ y' hdec
      have e0 : (k + 1) * E.size τ ≤ m.2 * E.size τ := Nat.mul_le_mul_right _ (by omega)
      rw [Nat.add_mul, Nat.one_mul, hk1] at e0
      rw [hE.size, hk1] at p1
      rw [hk1] at hsz
      have hfit : k * z + off + n ≤ cur.size := by omega
      have hrun := run_storeAt hE hn hsize hh hfit c3
      refine wp_skip' (w' := w.setRow b (cur.toList.take (k * z + off) ++ (a.eval y).cells.toList ++ cur.toList.drop (k * z + off + n)).toArray) (by simp only [execOp, hvx, Sem.run_bind, hrun, Result.andThen_ok, Sem.run_pure])
       (next F β _ _ (h.turn hb _ (.row _ τ m.1 _) (fun ob' ho' hle => by rw [obj_some hob (by simp)] at ho'; cases ho'; exact hle) (fun ob' ho' => by rw [obj_some hob (by simp)] at ho'; cases ho'; rfl) rfl ⟨rfl, ⟨hm1, hm2⟩, _, e, setRow_heap w b cur _ e _ hh, by rw [hk1]; simp; omega, fun i j c hi hc => ?_⟩) .undef (fun i hi hno _ => ⟨hno, List.getElem?_set_ne (fun e => by subst e; rw [hb] at hno; cases hno)⟩))
      replace hc : (E.cells τ (if i = k then y' else f i))[j]? = some c := hc
      have hl := laid_get cur.toList (a.eval y).cells.toList (k * z + off) (by simp; omega) (i * z + j)
      simp only [Array.length_toList, hsize] at hl
      have e2 : (cur.toList.take (k * z + off) ++ (a.eval y).cells.toList ++ cur.toList.drop (k * z + off + n)).toArray.getD (i * z + j) Go.undef = (cur.toList.take (k * z + off) ++ (a.eval y).cells.toList ++ cur.toList.drop (k * z + off + n)).getD (i * z + j) Go.undef := by rw [← getD_toList]
      rw [hk1, e2, hl]
      have hkp := keeps_setRow h hb (cur.toList.take (k * z + off) ++ (a.eval y).cells.toList ++ cur.toList.drop (k * z + off + n)).toArray
      have hpure : c.pure = true := by
       have hp := hE.pure τ (if i = k then y' else f i)
       simp only [List.all_eq_true] at hp
       exact hp c (getD_mem hc)
      have hjz : j < z := by
       rw [← hk1, ← hE.size τ (if i = k then y' else f i)]
       exact (List.getElem?_eq_some_iff.1 hc).1
      by_cases hik : i = k
      ·subst hik
       rw [if_pos rfl] at hc
       rw [hcs, List.getElem?_map] at hc
       cases hq : cs'[j]? with
       | none => simp [hq] at hc
       | some d' =>
        simp only [hq, Option.map_some, Option.some.injEq] at hc
        have hj := p3 j d' hq
        rw [hlen] at hj
        split at hj
        ·rename_i hin
         rw [if_pos (by omega), getD_toList, show i * z + j - (i * z + off) = j - off by omega]
         have := nrm_rep τ (c2 _ d' hj)
         rw [hc] at this
         exact (this.pure hpure).mono (fun _ _ h => h) hkp (Bet.le_refl _)
        ·rename_i hin
         rw [if_neg (by omega), getD_toList]
         have := hr i j d' hk2 hj
         rw [hk1] at this
         have := nrm_rep τ this
         rw [hc] at this
         exact this.mono (fun _ _ h => h) hkp (Bet.le_refl _)
      ·rw [if_neg hik] at hc
       have hout : ¬ (k * z + off ≤ i * z + j ∧ i * z + j < k * z + off + n) := by
        rcases Nat.lt_or_gt_of_ne hik with hlt | hlt
        ·have : (i + 1) * z ≤ k * z := Nat.mul_le_mul_right _ hlt
         rw [Nat.add_mul, Nat.one_mul] at this
         omega
        ·have : (k + 1) * z ≤ i * z := Nat.mul_le_mul_right _ hlt
         rw [Nat.add_mul, Nat.one_mul] at this
         omega
       rw [if_neg hout, getD_toList]
       have := hr i j c hi hc
       rw [hk1] at this
       exact this.mono (fun _ _ h => h) hkp (Bet.le_refl _)
     ·simp at hv
    ·rename_i l τ m' p f hob
     simp only [Option.bind_eq_some_iff] at hv
     obtain ⟨⟨c, os'⟩, hst, hv⟩ := hv
     cases c with
     | false => cases hv
     | true =>
     simp only [cond_true, Option.some.injEq, Prod.mk.injEq] at hv
     obtain ⟨rfl, rfl⟩ := hv
     obtain ⟨cur, e, hh, hfit, hg1, hg2, β', hrel, hβ⟩ := storeDeep_rel hE h hb hkm (obj_some hob (by simp)) hlen hsize c2 hst
     have hrun := run_storeAt hE hn hsize hh hfit c3
     refine wp_skip' (w' := w.setRow b (cur.toList.take (k * z + off) ++ (a.eval y).cells.toList ++ cur.toList.drop (k * z + off + n)).toArray) (by simp only [execOp, hvx, Sem.run_bind, hrun, Result.andThen_ok, Sem.run_pure])
      (next F β' _ _ hrel .undef (fun i hi hno hbx => ⟨by rw [hβ]; exact hno, ?_⟩))
     obtain ⟨cs, hcs, _⟩ := hbx
     rw [hcs]; exact hg2 i _ _ hcs
    ·simp at hv
 case makeSlice t l c =>
  simp only [Option.bind_eq_some_iff] at hv
  obtain ⟨e, he, by', hby, τ, hτ, zc, hzc, y, hy, hv⟩ := hv
  have hl := ev_rep h 0 l
  have hc := ev_rep h 0 c
  generalize E.ev s 0 l = dl at hl hv
  generalize E.ev s 0 c = dc at hc hv
  split at hv
  ·rename_i k n k' m
   split at hv
   ·rename_i hk
    obtain ⟨hk1, hk2, hk3, hk4⟩ := hk
    subst hk2
    simp only [Option.some.injEq, Prod.mk.injEq] at hv
    obtain ⟨rfl, rfl⟩ := hv
    obtain ⟨i, z, h1, h2, h3, h4, h5, h6⟩ := zero_rep hE hzc
    have hib : i.bytes = by' := by have := hE.bytes e by' hby; simpa [h1] using this
    have hcs := hE.dec τ _ y hy
    have hts : E.size τ = zc.length := by rw [← hE.size τ y, hcs]; simp
    have hrun := run_make (P := P) w t e i z (hE.elem t e he) h1 h2 k k' n n hk1 (Int.le_refl _) (by rw [hib]; exact hk3) hk4
    refine wp_value' (v := .slice (some (at' w.heap.size 0)) n.toNat n.toNat) (w' := w.alloc (.cells (madeCells z.cells (n.toNat * i.size)) e)) (by simp [execOp, hl.toInt, hc.toInt, hrun, at'])
     (next F _ _ _ (h.fresh _ e (n.toNat, n.toNat) (.row false τ n.toNat fun _ => y) (fun w' hkp hh => ⟨rfl, ⟨Nat.le_refl _, by show n.toNat ≤ _; omega⟩, _, e, hh, by rw [size_madeCells, hts, h4], fun i' j c' hi' hc' => ?_⟩)) (.os _ _ _ _ (n.toNat, n.toNat) (by simp [Bet.with_r]) ⟨Nat.le_refl _, rfl⟩ (Nat.le_refl _)) (fun i hi hn _ => ⟨?_, List.getElem?_append_left hi⟩))
    ·have hjz : j < z.cells.size := by rw [h3, ← hts, ← hE.size τ y]; exact (List.getElem?_eq_some_iff.1 hc').1
     rw [hts, ← h3, h4, ← h3, madeCells_get _ _ _ _ hjz (by
      have : (i' + 1) * z.cells.size ≤ n.toNat * z.cells.size := Nat.mul_le_mul_right _ hi'
      rw [Nat.add_mul, Nat.one_mul] at this
      omega)]
     rw [hcs, List.getElem?_map] at hc'
     cases hq : zc[j]? with
     | none => simp [hq] at hc'
     | some d' =>
      simp only [hq, Option.map_some, Option.some.injEq] at hc'
      rw [← hc']
      exact nrm_rep τ (h6 F w' j d' hq)
    ·rw [Bet.with_r, if_neg (by omega)]
     exact hn
   ·simp at hv
  ·simp at hv
 case call c =>
  obtain ⟨callee, args, argTypes⟩ := c
  cases callee with
  | value f => simp at hv
  | invoke f m => simp at hv
  | builtin b =>
   cases b <;> try (simp at hv; done)
   case copy =>
    dsimp only at hv
    split at hv
    ·rename_i xo yo t t' hxs hts
     simp only [Option.bind_eq_some_iff] at hv
     obtain ⟨e, he, z, hz, hv⟩ := hv
     obtain rfl : args = #[xo, yo] := Array.ext' hxs
     obtain rfl : argTypes = #[t, t'] := Array.ext' hts
     obtain ⟨v, w', r1, r2, r3, r4⟩ := copy_wp hE h he hz (ev_rep h 0 xo) (ev_rep h 0 yo) hv (t' := t') (ty := ty)
     exact wp_value' (v := v) (w' := w') (by simp [execOp, resolve, invoke, builtin, r1]) (next F β v w' r2 (r3 _ _ _) (fun i hi hn hbx => ⟨hn, r4 i hi hn hbx⟩))
    ·simp at hv
   case append =>
    dsimp only at hv
    split at hv
    ·rename_i xo yo t t' hxs hts
     split at hv
     ·rename_i htt
      subst htt
      simp only [Option.bind_eq_some_iff] at hv
      obtain ⟨e, he, by', hby, zc, hzc, z, hz, ⟨c, d', os'⟩, hr, hv⟩ := hv
      cases c with
      | false => simp at hv
      | true =>
      simp only [cond_true, Option.some.injEq, Prod.mk.injEq] at hv
      obtain ⟨rfl, rfl⟩ := hv
      unfold appendTo at hr
      have hx := ev_rep h 0 xo
      have hy0 := ev_rep h 0 yo
      split at hr
      ·rename_i o len z' τ m g hxo hyo
       rw [hxo] at hx
       have hy := read_app hE h hy0 hyo
       cases hboxes : clear o s.objs with
       | false => rw [hboxes] at hr; simp at hr
       | true =>
        rw [hboxes] at hr
        simp only [cond_true] at hr
        split at hr
        ·rename_i τ' n f hob
         split at hr
         ·simp at hr
         ·rename_i hττ _
          subst hττ
          split at hr
          ·rename_i hcond
           simp only [Option.some.injEq, Prod.mk.injEq, Bool.and_eq_true, decide_eq_true_eq] at hr
           obtain ⟨⟨hmax, hbytes⟩, rfl, rfl⟩ := hr
           have hvic : victim E s (Op.call ⟨.builtin .append, args, argTypes⟩) = some o := by simp [victim, hxs, hxo]
           exact append_wp hE h hvic hxs hts he hby hzc hz hx hy hob hboxes hcond.1 hcond.2 hmax hbytes next
          ·simp at hr
        ·simp at hr
      ·rename_i z0 τ' z' τ m g hxo hyo
       rw [hxo] at hx
       have hy := read_app hE h hy0 hyo
       split at hr
       ·simp at hr
       ·split at hr
        ·rename_i hcond
         simp only [Option.some.injEq, Prod.mk.injEq, Bool.and_eq_true, decide_eq_true_eq] at hr
         obtain ⟨⟨hmax, hbytes⟩, rfl, rfl⟩ := hr
         have hvic : victim E s (Op.call ⟨.builtin .append, args, argTypes⟩) = none := by simp [victim, hxs, hxo]
         exact append_emp_wp hE h hvic hxs hts he hby hzc hz hx hy hcond.1 hcond.2 hmax hbytes next
        ·simp at hr
      ·rename_i o len τ cs hxo hyo
       rw [hxo] at hx
       have hy := hy0
       rw [read_litA hyo] at hy
       cases hboxes : clear o s.objs with
       | false => rw [hboxes] at hr; simp at hr
       | true =>
        rw [hboxes] at hr
        simp only [cond_true] at hr
        split at hr
        ·rename_i τ' n p f hob
         split at hr
         ·simp at hr
         ·rename_i hττ _
          subst hττ
          split at hr
          ·rename_i hcond
           simp only [Option.bind_eq_some_iff] at hr
           obtain ⟨⟨okc, told, os1⟩, habs, y, hdec, hr⟩ := hr
           simp only [Option.some.injEq, Prod.mk.injEq, Bool.and_eq_true, decide_eq_true_eq] at hr
           obtain ⟨⟨rfl, hlp, hmax, hbytes⟩, rfl, rfl⟩ := hr
           have hvic : victim E s (Op.call ⟨.builtin .append, args, argTypes⟩) = some o := by simp [victim, hxs, hxo]
           exact appendD_wp hE h hvic hxs hts he hby hzc hz hx hy hob hboxes hcond.1 hcond.2 habs hdec hlp hmax hbytes next
          ·simp at hr
        ·simp at hr
      ·rename_i z0 τ' τ cs hxo hyo
       rw [hxo] at hx
       have hy := hy0
       rw [read_litA hyo] at hy
       split at hr
       ·simp at hr
       ·split at hr
        ·rename_i hcond
         simp only [Option.bind_eq_some_iff] at hr
         obtain ⟨⟨okc, told, os1⟩, habs, y, hdec, hr⟩ := hr
         simp only [Option.some.injEq, Prod.mk.injEq, Bool.and_eq_true, decide_eq_true_eq] at hr
         obtain ⟨⟨rfl, hbytes⟩, rfl, rfl⟩ := hr
         have hvic : victim E s (Op.call ⟨.builtin .append, args, argTypes⟩) = none := by simp [victim, hxs, hxo]
         exact appendD_emp_wp hE h hvic hxs hts he hby hzc hz hx hy hcond.1 hcond.2 habs hdec hbytes next
        ·simp at hr
      ·simp at hr
     ·simp at hv
    ·simp at hv
end Go.Proofs.Ytcmfekgdlaffkaa.Vm

