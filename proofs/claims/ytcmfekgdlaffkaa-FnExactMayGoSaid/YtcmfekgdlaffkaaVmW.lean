/- The value machine: operations that make or turn an object, on the machine. Conditions: none. -/
import Derived.Test.YtcmfekgdlaffkaaVmQ
namespace Go.Proofs.Ytcmfekgdlaffkaa.Vm
open Go Go.RowKit
set_option linter.unusedVariables false
set_option linter.unusedSimpArgs false
variable {RT : Type} {den : RT → Type} {E : Env RT den} {P : Program}
theorem Rel.rowEq {F0 : Was} {w0 : World} {F : Frz} {β : Bet} {s : St RT den} {a : Act} {w : World} (h : Rel E F0 w0 F β s a w) {o : Nat} {l : Bool} {τ : RT} {n : Nat} {f f' : Nat → den τ} (hob : s.objs[o]? = some (.row l τ n f)) (hf : ∀ i, i < n → f' i = f i) :
    Rel E F0 w0 F β { s with objs := s.objs.set o (.row l τ n f') } a w := by
  have hlt := (List.getElem?_eq_some_iff.1 hob).1
  have hs : ∀ (i : Nat), i ≠ o → (s.objs.set o (.row l τ n f'))[i]? = s.objs[i]? := fun i hi => List.getElem?_set_ne (Ne.symm hi)
  have ho : (s.objs.set o (.row l τ n f'))[o]? = some (.row l τ n f') := by simp [hlt]
  refine ⟨h.defers, h.size, h.slots, fun i ob hi b m hb => ?_, fun i b m hb => ?_, h.inj, h.below, h.frz, h.frz1, h.frz2, fun o' hx => ⟨(h.place o' hx).1, ?_⟩, h.placeH, ?_⟩
  rotate_right
  · refine h.hid.step (fun _ h => h) (fun _ _ h => h) (fun _ _ h => .inl h) (Keeps.refl _ _) (Nat.le_refl _) rfl (fun i b' m' hi => .inl ⟨m', hi⟩) (fun i ob hi hd => ?_) (fun i l' τ' n' p f'' hi b' m' hb' => ?_) (fun _ _ _ _ _ => rfl) (by simp)
    · show (s.objs.set o _)[i]? = _
      rw [hs i (fun e => by subst e; rw [hob] at hi; cases hi; cases hd)]; exact hi
    · have hi : (s.objs.set o (.row l τ n f'))[i]? = _ := hi
      by_cases e : i = o
      · subst e; rw [ho] at hi; cases hi
      · rw [hs i e] at hi; exact ⟨hi, hb', rfl⟩
  · have hi : (s.objs.set o (.row l τ n f'))[i]? = some ob := hi
    by_cases e : i = o
    · subst e
      rw [ho] at hi; cases hi
      obtain ⟨q1, q2, cur, e', hh, hs', hr⟩ := h.objs i _ hob b m hb
      exact ⟨q1, q2, cur, e', hh, hs', fun i j c hi hc => by rw [hf i hi] at hc; exact hr i j c hi hc⟩
    · rw [hs i e] at hi
      exact h.objs i ob hi b m hb
  · obtain ⟨n1, n2, n3, n4⟩ := h.names i b m hb
    exact ⟨n1, n2, n3, by simpa using n4⟩
  · obtain ⟨ob, h1, h2⟩ := (h.place o' hx).2
    by_cases e : o' = o
    · subst e
      rw [hob] at h1; cases h1
      exact ⟨_, ho, h2⟩
    · exact ⟨ob, by show (s.objs.set o _)[o']? = _; rw [hs o' e]; exact h1, h2⟩
theorem read_part (hE : Ok E P) {F0 : Was} {w0 : World} {F : Frz} {β : Bet} {s : St RT den} {a : Act} {w : World} (h : Rel E F0 w0 F β s a w) {d : D RT den} {v : Value} (hv : VRep E F w β d v) {z : Option Bool} {τ : RT} {n : Nat} {f : Nat → den τ} (hd : rdPart E s.objs d = .rs z τ n f) : Grow E F w z τ n f v := by
  by_cases hp : ∃ o z off len, d = .osp o z off len
  · obtain ⟨o, z', off, len, rfl⟩ := hp
    simp only [rdPart] at hd
    cases hob : obj s.objs o <;> rw [hob] at hd <;> try (simp only [reduceCtorEq] at hd; done)
    rename_i l τ1 n1 f1
    dsimp only at hd
    split at hd
    · rename_i hz
      simp only [D.rs.injEq] at hd
      obtain ⟨rfl, rfl, rfl, hf⟩ := hd
      have hf := eq_of_heq hf
      subst hf
      cases hv with
      | osp _ _ _ _ cap b m hb hcap hlm =>
        obtain ⟨hmn, ⟨hm1, hm2⟩, cur, e', hh, hs, hr⟩ := h.objs o _ (obj_some hob (by simp)) b m hb
        refine .rs none τ1 len _ (some (at' b (off * z'))) cap b (off * z') (fun i j => cur.getD ((off + i) * E.size τ1 + j) Go.undef) (fun _ => rfl) (by simp) (by simp) (fun _ p hp => by cases hp; rfl) hcap (by simp) (fun i j c hi hc => hr (off + i) j c (by omega) hc) (fun i j hi hj => ⟨trivial, ?_⟩)
        have hlt : (off + i) * E.size τ1 + j < cur.size := by
          rw [hs]
          have h1 : (off + i + 1) * E.size τ1 ≤ m.2 * E.size τ1 := Nat.mul_le_mul_right _ (by omega)
          rw [Nat.add_mul, Nat.one_mul] at h1
          omega
        rw [← hz, show off * E.size τ1 + i * E.size τ1 + j = (off + i) * E.size τ1 + j by rw [Nat.add_mul]]
        exact cell_own hh hlt
      | osp0 _ _ _ a0 hq =>
        exact .rs none τ1 0 _ a0 0 0 0 (fun _ _ => Go.undef) (by simp) (by simp) (by simp) (by simp) (Nat.le_refl _) (fun _ => rfl) (fun i j c hi => absurd hi (Nat.not_lt_zero _)) (fun i j hi => absurd hi (Nat.not_lt_zero _))
    · simp at hd
  · refine read_src hE h hv (d := d) ?_
    cases d <;> first | exact hd | (exfalso; exact hp ⟨_, _, _, _, rfl⟩) | skip
    rename_i o len
    simp only [rdPart] at hd
    simp only [rdRow]
    cases hob : obj s.objs o <;> rw [hob] at hd <;> first | (simp only [reduceCtorEq] at hd; done) | skip
    dsimp only at hd ⊢
    simp only [norm]
    exact hd
theorem copy_core (hE : Ok E P) {F0 : Was} {w0 : World} {F : Frz} {β : Bet} {s : St RT den} {a : Act} {w : World} (h : Rel E F0 w0 F β s a w) {t t' ty e o off len n m : Nat} {l : Bool} {τ : RT} {f g : Nat → den τ} (he : E.elem t = some e) (hz : E.sz e = some 1) (hsz : E.size τ = 1)
    (hob : s.objs[o]? = some (.row l τ n f)) {vx vy : Value} (hx : (len = 0 ∧ ∃ a cap, vx = .slice a 0 cap) ∨ ∃ cap b m, β o = some (b, m) ∧ off + len ≤ m.1 ∧ vx = .slice (some (at' b off)) len cap) {z' : Option Bool} (hy : Grow E F w z' τ m g vy) :
    ∃ w', (Builtin.copy_ #[t, t'] ty #[vx, vy]).run P w = .ok (.int .i64 (min m len : Nat)) w' ∧ Rel E F0 w0 F β { s with objs := s.objs.set o (.row l τ n fun i => if off ≤ i ∧ i < off + min m len then g (i - off) else f i) } a w' := by
  have ht := hE.elem t e he
  have hs := hE.sz e 1 hz
  obtain ⟨i, hi, his⟩ : ∃ i, P.info? e = some i ∧ i.size = 1 := by
    cases hq : P.info? e with
    | none => simp [hq] at hs
    | some i => exact ⟨i, rfl, by simpa [hq] using hs⟩
  cases hy with
  | rs p cap b o' u k1 k2 k3 k4 k5 k6 k7 k8 =>
  by_cases hk : min m len = 0
  · refine ⟨w, ?_, h.rowEq hob (fun i hi => if_neg (by omega))⟩
    have hm : Nat.min m len = 0 := hk
    have hvx : ∃ q cp, vx = .slice q len cp := by
      rcases hx with ⟨rfl, q, cp, rfl⟩ | ⟨cp, b0, m0, _, _, rfl⟩
      · exact ⟨q, cp, rfl⟩
      · exact ⟨_, _, rfl⟩
    obtain ⟨q, cp, rfl⟩ := hvx
    have hload : ∀ a : Addr, (loadCells a 0).run P w = .ok #[] w := fun a => run_loadCells_list (P := P) w a [] (fun j v hj => by simp at hj)
    rw [hk]
    cases p with
    | none => cases q <;> simp [Builtin.copy_, run_underlying ht, Builtin.lenOf, Builtin.firstCells, sizeOf, typeInfo, hi, hm, storeCells, goInt]
    | some a => cases q <;> simp [Builtin.copy_, run_underlying ht, Builtin.lenOf, Builtin.firstCells, sizeOf, typeInfo, hi, hm, storeCells, hload, goInt]
  · have hm0 : m ≠ 0 := by omega
    have hl0 : len ≠ 0 := by omega
    obtain ⟨cp, b0, m0, hb, hlm, rfl⟩ := hx.resolve_left (fun h => hl0 h.1)
    have hp := k1 hm0
    subst hp
    obtain ⟨hmn, ⟨hm1, hm2⟩, cur, e', hh, hcs, hr⟩ := h.objs o _ hob b0 m0 hb
    let k := min m len
    let cs : List Value := (List.range k).map fun i => u i 0
    have hcl : cs.length = k := by simp [cs]
    have hget : ∀ i, i < k → cs.getD i Go.undef = u i 0 := fun i hi => by simp [cs, List.getD, hi]
    have one : ∀ v ∈ cs, v.oneCell' = true := by
      intro v hv
      simp only [cs, List.mem_map, List.mem_range] at hv
      obtain ⟨i, hi, rfl⟩ := hv
      have hlen : (E.cells τ (g i)).length = 1 := by rw [hE.size]; exact hsz
      obtain ⟨c, hc⟩ : ∃ c, E.cells τ (g i) = [c] := by
        match E.cells τ (g i), hlen with
        | [c], _ => exact ⟨c, rfl⟩
      have := k7 i 0 c (by omega) (by rw [hc]; rfl)
      have hpu := hE.pure τ (g i)
      rw [hc] at hpu
      exact this.oneCell (D.flat_of_pure (by simpa using hpu))
    have hfit : off + cs.length ≤ cur.size := by rw [hcl, hcs, hsz]; omega
    have hrun := run_copy_row (P := P) w t t' ty e b0 off len cp (at' b o') m cap cur e' cs ht (by rw [hi]; simp [his]) hh hcl (fun j v hj => by
      have hjk : j < k := by rw [← hcl]; exact (List.getElem?_eq_some_iff.1 hj).1
      have := (k8 j 0 (by omega) (by omega)).2
      rw [hsz, Nat.mul_one, Nat.add_zero] at this
      rw [at'_add, this]
      simpa [cs, hjk] using hj) hfit one
    refine ⟨w.setRow b0 (cur.toList.take off ++ cs ++ cur.toList.drop (off + cs.length)).toArray, hrun.trans ?_, ?_⟩
    · have : (cs.length : Int) = ((min m len : Nat) : Int) := by rw [hcl]
      rw [this]
      rfl
    have hk' := keeps_setRow h hb (cur.toList.take off ++ cs ++ cur.toList.drop (off + cs.length)).toArray
    refine h.turn hb _ _ (fun ob' ho' hle => by rw [hob] at ho'; cases ho'; exact hle) (fun ob' ho' => by rw [hob] at ho'; cases ho'; rfl) rfl ⟨hmn, ⟨by omega, hm2⟩, _, e', setRow_heap w b0 cur _ e' _ hh, by simp; omega, fun i j c hi hc => ?_⟩
    replace hc : (E.cells τ (if off ≤ i ∧ i < off + min m len then g (i - off) else f i))[j]? = some c := hc
    have hj : j = 0 := by
      have := (List.getElem?_eq_some_iff.1 hc).1
      rw [hE.size, hsz] at this
      omega
    subst hj
    have hl := laid_get cur.toList cs off (by simpa using hfit) i
    rw [hsz, Nat.mul_one, Nat.add_zero]
    have e2 : (cur.toList.take off ++ cs ++ cur.toList.drop (off + cs.length)).toArray.getD i Go.undef = (cur.toList.take off ++ cs ++ cur.toList.drop (off + cs.length)).getD i Go.undef := by rw [← getD_toList]
    rw [e2, hl]
    by_cases hin : off ≤ i ∧ i < off + min m len
    · rw [if_pos hin] at hc
      rw [if_pos (by rw [hcl]; exact hin), hget _ (by omega)]
      exact (k7 _ 0 c (by omega) hc).mono (fun _ _ h => h) hk' (Bet.le_refl _)
    · rw [if_neg hin] at hc
      rw [if_neg (by rw [hcl]; exact hin), getD_toList]
      have := hr i 0 c hi hc
      rw [hsz, Nat.mul_one, Nat.add_zero] at this
      exact this.mono (fun _ _ h => h) hk' (Bet.le_refl _)
theorem copy_wp (hE : Ok E P) {F0 : Was} {w0 : World} {F : Frz} {β : Bet} {s : St RT den} {a : Act} {w : World} (h : Rel E F0 w0 F β s a w) {t t' ty e z : Nat} (he : E.elem t = some e) (hz : E.sz e = some z) {dx d0 : D RT den} {vx vy : Value} (hx : VRep E F w β dx vx) (hy : VRep E F w β d0 vy) {d : D RT den} {os : List (Ob RT den)}
    (hv : copyTo E s.objs z dx (rdPart E s.objs d0) = some (d, os)) : ∃ v w', (Builtin.copy_ #[t, t'] ty #[vx, vy]).run P w = .ok v w' ∧ Rel E F0 w0 F β { s with objs := os } a w' ∧ (∀ F' w' β', VRep E F' w' β' d v) ∧
      ∀ i, i < s.objs.length → β i = none → (∃ cs, s.objs[i]? = some (.box false cs) ∧ cs.all D.pure = true) → os[i]? = s.objs[i]? := by
  have core : ∀ o off len, copyInto E s.objs z o off len (rdPart E s.objs d0) = some (d, os) → ((len = 0 ∧ ∃ a cap, vx = .slice a 0 cap) ∨ ∃ cap b m, β o = some (b, m) ∧ off + len ≤ m.1 ∧ vx = .slice (some (at' b (off * z))) len cap) →
      ∃ v w', (Builtin.copy_ #[t, t'] ty #[vx, vy]).run P w = .ok v w' ∧ Rel E F0 w0 F β { s with objs := os } a w' ∧ (∀ F' w' β', VRep E F' w' β' d v) ∧
      ∀ i, i < s.objs.length → β i = none → (∃ cs, s.objs[i]? = some (.box false cs) ∧ cs.all D.pure = true) → os[i]? = s.objs[i]? := by
    intro o off len hc hq
    unfold copyInto at hc
    split at hc
    · rename_i l τ n f hob
      generalize hdy : rdPart E s.objs d0 = dy at hc
      cases dy <;> try (simp only [reduceCtorEq] at hc; done)
      rename_i z0 τ' m g
      dsimp only at hc
      split at hc
      · simp at hc
      · rename_i hττ _
        subst hττ
        split at hc
        · rename_i hcond
          obtain ⟨rfl, hsz⟩ := hcond
          simp only [Option.some.injEq, Prod.mk.injEq] at hc
          obtain ⟨rfl, rfl⟩ := hc
          have hoo := obj_some hob (by simp)
          have hg := read_part hE h hy hdy
          simp only [Nat.mul_one] at hq
          obtain ⟨w', r1, r2⟩ := copy_core hE h he hz hsz hoo hq hg (t' := t') (ty := ty)
          refine ⟨_, w', r1, r2, fun _ _ _ => .int .i64 _, fun i hi hn hbx => ?_⟩
          have hne : i ≠ o := fun e => by subst e; obtain ⟨cs, hcs, _⟩ := hbx; rw [hoo] at hcs; cases hcs
          exact List.getElem?_set_ne (Ne.symm hne)
        · simp at hc
    · simp at hc
  unfold copyTo at hv
  split at hv
  · rename_i o len
    refine core o 0 len hv ?_
    cases hx with
    | os _ _ cap b m hb hcap hlm => exact .inr ⟨cap, b, m, hb, by omega, by rw [Nat.zero_mul]⟩
    | os0 _ a0 hq => exact .inl ⟨rfl, a0, 0, rfl⟩
  · rename_i o z' off len
    split at hv
    · rename_i hzz
      subst hzz
      refine core o off len hv ?_
      cases hx with
      | osp _ _ _ _ cap b m hb hcap hlm => exact .inr ⟨cap, b, m, hb, hlm, rfl⟩
      | osp0 _ _ _ a0 hq => exact .inl ⟨rfl, a0, 0, rfl⟩
    · simp at hv
  · simp at hv
theorem eff_wp (hE : Ok E P) {F0 : Was} {w0 : World} {F : Frz} {β : Bet} {s : St RT den} {a : Act} {w : World} (h : Rel E F0 w0 F β s a w) (o : Oper) {d : D RT den} {os : List (Ob RT den)}
    (hv : eff E s o.type o.op = some (d, os)) {K : Act → World → Prop} {Q : Exit → Act → World → Prop}
    (next : ∀ F' β' v w', Rel E F0 w0 F' β' (({ s with objs := os } : St RT den).kill (victim E s o.op)) a w' → VRep E F' w' β' d v → (∀ i, i < s.objs.length → β i = none → (∃ cs, s.objs[i]? = some (.box false cs) ∧ cs.all D.pure = true) → β' i = none ∧ os[i]? = s.objs[i]?) → K (a.put o.dst v) w') : o.wp P a w K Q := by
  obtain ⟨dst, op, ty, pos, after, guard⟩ := o
  cases op <;> (try dsimp only at hv) <;> unfold eff at hv <;> (try dsimp only at hv) <;> try (simp only [reduceCtorEq] at hv; done)
  case box t x =>
    cases hfl : (E.ev s t x).cells.all D.flat with
    | false => simp [hfl] at hv
    | true =>
      simp only [hfl, cond_true, Option.some.injEq, Prod.mk.injEq] at hv
      obtain ⟨rfl, rfl⟩ := hv
      obtain ⟨c1, c2, c3⟩ := (ev_rep h t x).cells hfl
      have hle := Bet.le_with (β := β) w.heap.size (0, 0) h.last
      refine wp_value' (v := .pointer (some (at' w.heap.size 0))) (w' := w.alloc (.cells (a.eval x).cells t)) (by simp [execOp, Instr.box, newVar, newRow, at'])
        (next F _ _ _ (h.fresh (a.eval x).cells t (0, 0) (.box false (E.ev s t x).cells) (fun w' hk hh => ⟨_, t, hh, c1.symm, fun j c hc => (c2 j c hc).mono (fun _ _ h => h) hk hle⟩)) (.ref _ 0 _ (0, 0) (by simp [Bet.with_r])) (fun i hi hn _ => ⟨?_, List.getElem?_append_left hi⟩))
      rw [Bet.with_r, if_neg (by omega)]
      exact hn
  case store t x y =>
    simp only [Option.bind_eq_some_iff] at hv
    obtain ⟨n, hn, hv⟩ := hv
    cases hfl : (E.ev s t y).cells.all D.flat && decide ((E.ev s t y).cells.length = n) with
    | false => simp [hfl] at hv
    | true =>
      simp only [hfl, cond_true] at hv
      simp only [Bool.and_eq_true, decide_eq_true_eq] at hfl
      obtain ⟨hfl, hlen⟩ := hfl
      obtain ⟨c1, c2, c3⟩ := (ev_rep h t y).cells hfl
      have hx := ev_rep h 0 x
      generalize E.ev s 0 x = dx at hx hv
      obtain ⟨vx, hvx⟩ : ∃ v, a.eval x = v := ⟨_, rfl⟩
      rw [hvx] at hx
      have hsize : (a.eval y).cells.size = n := by omega
      cases hx <;> try (simp only [reduceCtorEq] at hv; done)
      · rename_i o off b m hb
        dsimp only at hv
        split at hv
        · rename_i cs hob
          simp only [Option.bind_eq_some_iff] at hv
          obtain ⟨cs', hput, hv⟩ := hv
          simp only [Option.some.injEq, Prod.mk.injEq] at hv
          obtain ⟨rfl, rfl⟩ := hv
          obtain ⟨cur, e, hh, hsz, hr⟩ := h.objs o _ (obj_some hob (by simp)) b m hb
          obtain ⟨p1, p2, p3⟩ := put_get hput
          have hfit : off + n ≤ cur.size := by omega
          have hrun := run_storeAt hE hn hsize hh hfit c3
          refine wp_skip' (w' := w.setRow b (cur.toList.take off ++ (a.eval y).cells.toList ++ cur.toList.drop (off + n)).toArray) (by simp only [execOp, hvx, Sem.run_bind, hrun, Result.andThen_ok, Sem.run_pure])
            (next F β _ _ (h.turn hb _ (.box _ cs') (fun ob' ho' hle => by rw [obj_some hob (by simp)] at ho'; cases ho'; exact hle) (fun ob' ho' => by rw [obj_some hob (by simp)] at ho'; cases ho'; rfl) rfl ⟨_, e, setRow_heap w b cur _ e _ hh, by simp; omega, fun j c hc => ?_⟩) .undef (fun i hi hno _ => ⟨hno, List.getElem?_set_ne (fun e => by subst e; rw [hb] at hno; cases hno)⟩))
          have hj := p3 j c hc
          have hl := laid_get cur.toList (a.eval y).cells.toList off (by simp; omega) j
          simp only [Array.length_toList, hsize] at hl
          have e2 : (cur.toList.take off ++ (a.eval y).cells.toList ++ cur.toList.drop (off + n)).toArray.getD j Go.undef = (cur.toList.take off ++ (a.eval y).cells.toList ++ cur.toList.drop (off + n)).getD j Go.undef := by rw [← getD_toList]
          rw [e2, hl]
          have hk := keeps_setRow h hb (cur.toList.take off ++ (a.eval y).cells.toList ++ cur.toList.drop (off + n)).toArray
          rw [hlen] at hj
          split at hj
          · rename_i hin
            rw [if_pos hin, getD_toList]
            exact (c2 _ c hj).mono (fun _ _ h => h) hk (Bet.le_refl _)
          · rename_i hin
            rw [if_neg hin, getD_toList]
            exact (hr j c hj).mono (fun _ _ h => h) hk (Bet.le_refl _)
        · simp at hv
      · rename_i o z k off b m hkm hb
        dsimp only at hv
        split at hv
        · rename_i τ m' f hob
          split at hv
          · rename_i hk1
            have hk2 := hkm
            simp only [Option.bind_eq_some_iff] at hv
            obtain ⟨cs', hput, y', hdec, hv⟩ := hv
            simp only [Option.some.injEq, Prod.mk.injEq] at hv
            obtain ⟨rfl, rfl⟩ := hv
            obtain ⟨hmm, ⟨hm1, hm2⟩, cur, e, hh, hsz, hr⟩ := h.objs o _ (obj_some hob (by simp)) b m hb
            subst hmm
            obtain ⟨p1, p2, p3⟩ := put_get hput
            have hcs := hE.dec τ _ y' hdec
            have e0 : (k + 1) * E.size τ ≤ m.2 * E.size τ := Nat.mul_le_mul_right _ (by omega)
            rw [Nat.add_mul, Nat.one_mul, hk1] at e0
            rw [hE.size, hk1] at p1
            rw [hk1] at hsz
            have hfit : k * z + off + n ≤ cur.size := by omega
            have hrun := run_storeAt hE hn hsize hh hfit c3
            refine wp_skip' (w' := w.setRow b (cur.toList.take (k * z + off) ++ (a.eval y).cells.toList ++ cur.toList.drop (k * z + off + n)).toArray) (by simp only [execOp, hvx, Sem.run_bind, hrun, Result.andThen_ok, Sem.run_pure])
              (next F β _ _ (h.turn hb _ (.row _ τ m.1 _) (fun ob' ho' hle => by rw [obj_some hob (by simp)] at ho'; cases ho'; exact hle) (fun ob' ho' => by rw [obj_some hob (by simp)] at ho'; cases ho'; rfl) rfl ⟨rfl, ⟨hm1, hm2⟩, _, e, setRow_heap w b cur _ e _ hh, by rw [hk1]; simp; omega, fun i j c hi hc => ?_⟩) .undef (fun i hi hno _ => ⟨hno, List.getElem?_set_ne (fun e => by subst e; rw [hb] at hno; cases hno)⟩))
            replace hc : (E.cells τ (if i = k then y' else f i))[j]? = some c := hc
            have hl := laid_get cur.toList (a.eval y).cells.toList (k * z + off) (by simp; omega) (i * z + j)
            simp only [Array.length_toList, hsize] at hl
            have e2 : (cur.toList.take (k * z + off) ++ (a.eval y).cells.toList ++ cur.toList.drop (k * z + off + n)).toArray.getD (i * z + j) Go.undef = (cur.toList.take (k * z + off) ++ (a.eval y).cells.toList ++ cur.toList.drop (k * z + off + n)).getD (i * z + j) Go.undef := by rw [← getD_toList]
            rw [hk1, e2, hl]
            have hkp := keeps_setRow h hb (cur.toList.take (k * z + off) ++ (a.eval y).cells.toList ++ cur.toList.drop (k * z + off + n)).toArray
            have hpure : c.pure = true := by
              have hp := hE.pure τ (if i = k then y' else f i)
              simp only [List.all_eq_true] at hp
              exact hp c (getD_mem hc)
            have hjz : j < z := by
              rw [← hk1, ← hE.size τ (if i = k then y' else f i)]
              exact (List.getElem?_eq_some_iff.1 hc).1
            by_cases hik : i = k
            · subst hik
              rw [if_pos rfl] at hc
              rw [hcs, List.getElem?_map] at hc
              cases hq : cs'[j]? with
              | none => simp [hq] at hc
              | some d' =>
                simp only [hq, Option.map_some, Option.some.injEq] at hc
                have hj := p3 j d' hq
                rw [hlen] at hj
                split at hj
                · rename_i hin
                  rw [if_pos (by omega), getD_toList, show i * z + j - (i * z + off) = j - off by omega]
                  have := nrm_rep τ (c2 _ d' hj)
                  rw [hc] at this
                  exact (this.pure hpure).mono (fun _ _ h => h) hkp (Bet.le_refl _)
                · rename_i hin
                  rw [if_neg (by omega), getD_toList]
                  have := hr i j d' hk2 hj
                  rw [hk1] at this
                  have := nrm_rep τ this
                  rw [hc] at this
                  exact this.mono (fun _ _ h => h) hkp (Bet.le_refl _)
            · rw [if_neg hik] at hc
              have hout : ¬ (k * z + off ≤ i * z + j ∧ i * z + j < k * z + off + n) := by
                rcases Nat.lt_or_gt_of_ne hik with hlt | hlt
                · have : (i + 1) * z ≤ k * z := Nat.mul_le_mul_right _ hlt
                  rw [Nat.add_mul, Nat.one_mul] at this
                  omega
                · have : (k + 1) * z ≤ i * z := Nat.mul_le_mul_right _ hlt
                  rw [Nat.add_mul, Nat.one_mul] at this
                  omega
              rw [if_neg hout, getD_toList]
              have := hr i j c hi hc
              rw [hk1] at this
              exact this.mono (fun _ _ h => h) hkp (Bet.le_refl _)
          · simp at hv
        · rename_i l τ m' p f hob
          simp only [Option.bind_eq_some_iff] at hv
          obtain ⟨⟨c, os'⟩, hst, hv⟩ := hv
          cases c with
          | false => cases hv
          | true =>
          simp only [cond_true, Option.some.injEq, Prod.mk.injEq] at hv
          obtain ⟨rfl, rfl⟩ := hv
          obtain ⟨cur, e, hh, hfit, hg1, hg2, β', hrel, hβ⟩ := storeDeep_rel hE h hb hkm (obj_some hob (by simp)) hlen hsize c2 hst
          have hrun := run_storeAt hE hn hsize hh hfit c3
          refine wp_skip' (w' := w.setRow b (cur.toList.take (k * z + off) ++ (a.eval y).cells.toList ++ cur.toList.drop (k * z + off + n)).toArray) (by simp only [execOp, hvx, Sem.run_bind, hrun, Result.andThen_ok, Sem.run_pure])
            (next F β' _ _ hrel .undef (fun i hi hno hbx => ⟨by rw [hβ]; exact hno, ?_⟩))
          obtain ⟨cs, hcs, _⟩ := hbx
          rw [hcs]; exact hg2 i _ _ hcs
        · simp at hv
  case makeSlice t l c =>
    simp only [Option.bind_eq_some_iff] at hv
    obtain ⟨e, he, by', hby, τ, hτ, zc, hzc, y, hy, hv⟩ := hv
    have hl := ev_rep h 0 l
    have hc := ev_rep h 0 c
    generalize E.ev s 0 l = dl at hl hv
    generalize E.ev s 0 c = dc at hc hv
    split at hv
    · rename_i k n k' m
      split at hv
      · rename_i hk
        obtain ⟨hk1, hk2, hk3, hk4⟩ := hk
        subst hk2
        simp only [Option.some.injEq, Prod.mk.injEq] at hv
        obtain ⟨rfl, rfl⟩ := hv
        obtain ⟨i, z, h1, h2, h3, h4, h5, h6⟩ := zero_rep hE hzc
        have hib : i.bytes = by' := by have := hE.bytes e by' hby; simpa [h1] using this
        have hcs := hE.dec τ _ y hy
        have hts : E.size τ = zc.length := by rw [← hE.size τ y, hcs]; simp
        have hrun := run_make (P := P) w t e i z (hE.elem t e he) h1 h2 k k' n n hk1 (Int.le_refl _) (by rw [hib]; exact hk3) hk4
        refine wp_value' (v := .slice (some (at' w.heap.size 0)) n.toNat n.toNat) (w' := w.alloc (.cells (madeCells z.cells (n.toNat * i.size)) e)) (by simp [execOp, hl.toInt, hc.toInt, hrun, at'])
          (next F _ _ _ (h.fresh _ e (n.toNat, n.toNat) (.row false τ n.toNat fun _ => y) (fun w' hkp hh => ⟨rfl, ⟨Nat.le_refl _, by show n.toNat ≤ _; omega⟩, _, e, hh, by rw [size_madeCells, hts, h4], fun i' j c' hi' hc' => ?_⟩)) (.os _ _ _ _ (n.toNat, n.toNat) (by simp [Bet.with_r]) ⟨Nat.le_refl _, rfl⟩ (Nat.le_refl _)) (fun i hi hn _ => ⟨?_, List.getElem?_append_left hi⟩))
        · have hjz : j < z.cells.size := by rw [h3, ← hts, ← hE.size τ y]; exact (List.getElem?_eq_some_iff.1 hc').1
          rw [hts, ← h3, h4, ← h3, madeCells_get _ _ _ _ hjz (by
            have : (i' + 1) * z.cells.size ≤ n.toNat * z.cells.size := Nat.mul_le_mul_right _ hi'
            rw [Nat.add_mul, Nat.one_mul] at this
            omega)]
          rw [hcs, List.getElem?_map] at hc'
          cases hq : zc[j]? with
          | none => simp [hq] at hc'
          | some d' =>
            simp only [hq, Option.map_some, Option.some.injEq] at hc'
            rw [← hc']
            exact nrm_rep τ (h6 F w' j d' hq)
        · rw [Bet.with_r, if_neg (by omega)]
          exact hn
      · simp at hv
    · simp at hv
  case call c =>
    obtain ⟨callee, args, argTypes⟩ := c
    cases callee with
    | value f => simp at hv
    | invoke f m => simp at hv
    | builtin b =>
      cases b <;> try (simp at hv; done)
      case copy =>
        dsimp only at hv
        split at hv
        · rename_i xo yo t t' hxs hts
          simp only [Option.bind_eq_some_iff] at hv
          obtain ⟨e, he, z, hz, hv⟩ := hv
          obtain rfl : args = #[xo, yo] := Array.ext' hxs
          obtain rfl : argTypes = #[t, t'] := Array.ext' hts
          obtain ⟨v, w', r1, r2, r3, r4⟩ := copy_wp hE h he hz (ev_rep h 0 xo) (ev_rep h 0 yo) hv (t' := t') (ty := ty)
          exact wp_value' (v := v) (w' := w') (by simp [execOp, resolve, invoke, builtin, r1]) (next F β v w' r2 (r3 _ _ _) (fun i hi hn hbx => ⟨hn, r4 i hi hn hbx⟩))
        · simp at hv
      case append =>
        dsimp only at hv
        split at hv
        · rename_i xo yo t t' hxs hts
          split at hv
          · rename_i htt
            subst htt
            simp only [Option.bind_eq_some_iff] at hv
            obtain ⟨e, he, by', hby, zc, hzc, z, hz, ⟨c, d', os'⟩, hr, hv⟩ := hv
            cases c with
            | false => simp at hv
            | true =>
            simp only [cond_true, Option.some.injEq, Prod.mk.injEq] at hv
            obtain ⟨rfl, rfl⟩ := hv
            unfold appendTo at hr
            have hx := ev_rep h 0 xo
            have hy0 := ev_rep h 0 yo
            split at hr
            · rename_i o len z' τ m g hxo hyo
              rw [hxo] at hx
              have hy := read_src hE h hy0 hyo
              cases hboxes : clear o s.objs with
              | false => rw [hboxes] at hr; simp at hr
              | true =>
                rw [hboxes] at hr
                simp only [cond_true] at hr
                split at hr
                · rename_i τ' n f hob
                  split at hr
                  · simp at hr
                  · rename_i hττ _
                    subst hττ
                    split at hr
                    · rename_i hcond
                      simp only [Option.some.injEq, Prod.mk.injEq, Bool.and_eq_true, decide_eq_true_eq] at hr
                      obtain ⟨⟨hmax, hbytes⟩, rfl, rfl⟩ := hr
                      have hvic : victim E s (Op.call ⟨.builtin .append, args, argTypes⟩) = some o := by simp [victim, hxs, hxo]
                      exact append_wp hE h hvic hxs hts he hby hzc hz hx hy hob hboxes hcond.1 hcond.2 hmax hbytes next
                    · simp at hr
                · simp at hr
            · rename_i z0 τ' z' τ m g hxo hyo
              rw [hxo] at hx
              have hy := read_src hE h hy0 hyo
              split at hr
              · simp at hr
              · split at hr
                · rename_i hcond
                  simp only [Option.some.injEq, Prod.mk.injEq, Bool.and_eq_true, decide_eq_true_eq] at hr
                  obtain ⟨⟨hmax, hbytes⟩, rfl, rfl⟩ := hr
                  have hvic : victim E s (Op.call ⟨.builtin .append, args, argTypes⟩) = none := by simp [victim, hxs, hxo]
                  exact append_emp_wp hE h hvic hxs hts he hby hzc hz hx hy hcond.1 hcond.2 hmax hbytes next
                · simp at hr
            · rename_i o len τ cs hxo hyo
              rw [hxo] at hx
              have hy := hy0
              rw [read_lit hyo] at hy
              cases hboxes : clear o s.objs with
              | false => rw [hboxes] at hr; simp at hr
              | true =>
                rw [hboxes] at hr
                simp only [cond_true] at hr
                split at hr
                · rename_i τ' n p f hob
                  split at hr
                  · simp at hr
                  · rename_i hττ _
                    subst hττ
                    split at hr
                    · rename_i hcond
                      simp only [Option.bind_eq_some_iff] at hr
                      obtain ⟨⟨okc, told, os1⟩, habs, y, hdec, hr⟩ := hr
                      simp only [Option.some.injEq, Prod.mk.injEq, Bool.and_eq_true, decide_eq_true_eq] at hr
                      obtain ⟨⟨rfl, hlp, hmax, hbytes⟩, rfl, rfl⟩ := hr
                      have hvic : victim E s (Op.call ⟨.builtin .append, args, argTypes⟩) = some o := by simp [victim, hxs, hxo]
                      exact appendD_wp hE h hvic hxs hts he hby hzc hz hx hy hob hboxes hcond.1 hcond.2 habs hdec hlp hmax hbytes next
                    · simp at hr
                · simp at hr
            · rename_i z0 τ' τ cs hxo hyo
              rw [hxo] at hx
              have hy := hy0
              rw [read_lit hyo] at hy
              split at hr
              · simp at hr
              · split at hr
                · rename_i hcond
                  simp only [Option.bind_eq_some_iff] at hr
                  obtain ⟨⟨okc, told, os1⟩, habs, y, hdec, hr⟩ := hr
                  simp only [Option.some.injEq, Prod.mk.injEq, Bool.and_eq_true, decide_eq_true_eq] at hr
                  obtain ⟨⟨rfl, hbytes⟩, rfl, rfl⟩ := hr
                  have hvic : victim E s (Op.call ⟨.builtin .append, args, argTypes⟩) = none := by simp [victim, hxs, hxo]
                  exact appendD_emp_wp hE h hvic hxs hts he hby hzc hz hx hy hcond.1 hcond.2 habs hdec hbytes next
                · simp at hr
            · simp at hr
          · simp at hv
        · simp at hv
end Go.Proofs.Ytcmfekgdlaffkaa.Vm
