/- The value machine: an operation that makes or turns an object, on the machine. Conditions: none. -/
import Derived.Test.YtnfippmeficfjaaVmH
namespace Go.Proofs.Ytnfippmeficfjaa.Vm
open Go Go.RowKit
set_option linter.unusedVariables false
set_option linter.unusedSimpArgs false

variable {RT : Type} {den : RT → Type} {E : Env RT den} {P : Program}

theorem Rel.push {F0 : Frz} {w0 : World} {F : Frz} {β : Bet} {s : St RT den} {a : Act} {w : World} (h : Rel E F0 w0 F β s a w) (l : List (Ob RT den)) : Rel E F0 w0 F β { s with objs := s.objs ++ l } a w := by
  refine ⟨h.defers, h.size, h.slots, fun o ob ho b m hb => ?_, fun o b m hb => ?_, h.inj, h.below, h.frz, h.frz1, h.frz2⟩
  · have hlt := (h.names o b m hb).2.2.2
    rw [List.getElem?_append_left hlt] at ho
    exact h.objs o ob ho b m hb
  · obtain ⟨h1, h2, h3, h4⟩ := h.names o b m hb
    exact ⟨h1, h2, h3, by simp; omega⟩

theorem Rel.last {F0 : Frz} {w0 : World} {F : Frz} {β : Bet} {s : St RT den} {a : Act} {w : World} (h : Rel E F0 w0 F β s a w) : β s.objs.length = none := by
  cases hb : β s.objs.length with
  | none => rfl
  | some b => exact absurd (h.names _ b.1 b.2 hb).2.2.2 (Nat.lt_irrefl _)

/-- A new object behind the others. -/
theorem Rel.fresh {F0 : Frz} {w0 : World} {F : Frz} {β : Bet} {s : St RT den} {a : Act} {w : World} (h : Rel E F0 w0 F β s a w) (c : Array Value) (e : TypeId) (m : Nat) (ob : Ob RT den)
    (hr : ∀ w', Keeps F w w' → w'.heap[w.heap.size]? = some (.cells c e (0, 0)) → ORep E F w' (β.with s.objs.length w.heap.size m) w.heap.size m ob) :
    Rel E F0 w0 F (β.with s.objs.length w.heap.size m) { s with objs := s.objs ++ [ob] } a (w.alloc (.cells c e)) := by
  have hg := (h.push [ob]).grow (below_alloc w (.cells c e)) (F' := F) (fun _ _ h => h) (fun _ _ h => .inl h) (fun b o hf => by rw [size_alloc']; have := h.frz b o hf; omega)
  refine hg.own h.last (by simp) (hr _ (fun b o u hf hc => by rw [(below_alloc w (.cells c e)).cell (p := at' b o) (h.frz b o hf)]; exact hc) (heap_alloc_new w _)) h.below.size (by rw [size_alloc']; omega) (fun off hf => by have := h.frz _ _ hf; omega) (fun i m hi => no_new h i m hi)

theorem keeps_setRow {F0 : Frz} {w0 : World} {F : Frz} {β : Bet} {s : St RT den} {a : Act} {w : World} (h : Rel E F0 w0 F β s a w) {o b m : Nat} (hb : β o = some (b, m)) (cur : Array Value) : Keeps F w (w.setRow b cur) := fun b' o' u hf hc => by
  rw [cell_setRow_other w b cur (at' b' o') (fun e => by
    have e : b' = b := e
    subst e; exact (h.names o b' m hb).2.2.1 _ hf)]
  exact hc

/-- An own object is turned. -/
theorem Rel.turn {F0 : Frz} {w0 : World} {F : Frz} {β : Bet} {s : St RT den} {a : Act} {w : World} (h : Rel E F0 w0 F β s a w) {o b m : Nat} (hb : β o = some (b, m)) (cur : Array Value) (ob : Ob RT den) (hr : ORep E F (w.setRow b cur) β b m ob) :
    Rel E F0 w0 F β { s with objs := s.objs.set o ob } a (w.setRow b cur) := by
  have hk := keeps_setRow h hb cur
  refine ⟨h.defers, h.size, fun i d hd => (h.slots i d hd).mono (fun _ _ h => h) hk (Bet.le_refl _), fun i ob' hi c m' hc => ?_, fun i c m' hc => ?_, h.inj, ?_, fun b' o' hf => by rw [setRow_size]; exact h.frz b' o' hf, h.frz1, h.frz2⟩
  · by_cases hio : i = o
    · subst hio
      rw [hb] at hc; cases hc
      have : s.objs.length > i := (h.names i b m hb).2.2.2
      simp [this] at hi
      subst hi; exact hr
    · rw [List.getElem?_set_ne (Ne.symm hio)] at hi
      exact (h.objs i ob' hi c m' hc).mono (fun _ _ h => h) hk (setRow_other w b c cur (fun e => by subst e; exact hio (h.inj i o c _ _ hc hb))) (Bet.le_refl _)
  · obtain ⟨h1, h2, h3, h4⟩ := h.names i c m' hc
    exact ⟨h1, by rw [setRow_size]; exact h2, h3, by simpa using h4⟩
  · refine h.below.trans ⟨rfl, rfl, rfl, by rw [setRow_size]; exact Nat.le_refl _, fun k hk' => setRow_other w b k cur (fun e => by subst e; have := (h.names o k m hb).1; omega)⟩

theorem run_storeAt (hE : Ok E P) {w : World} {t n b off : Nat} {v : Value} {cur : Array Value} {e : TypeId} (hn : E.sz t = some n) (hs : v.cells.size = n) (hh : w.heap[b]? = some (.cells cur e (0, 0))) (hf : off + n ≤ cur.size) (h1 : ∀ x ∈ v.cells.toList, x.oneCell' = true) :
    (Instr.storeAt t (.pointer (some (at' b off))) v).run P w = .ok () (w.setRow b (cur.toList.take off ++ v.cells.toList ++ cur.toList.drop (off + n)).toArray) := by
  have := run_storeCells_at P b off e v.cells.toList 0 cur w hh (by simp; omega) h1
  simp only [Nat.add_zero, Array.length_toList, hs] at this
  simp [Instr.storeAt, Instr.sureAddr, storeVar, run_sizeOf hE hn, hs, at', this]

theorem laid_get (cur vs : List Value) (off : Nat) (hf : off + vs.length ≤ cur.length) (j : Nat) :
    (cur.take off ++ vs ++ cur.drop (off + vs.length)).getD j Go.undef = if off ≤ j ∧ j < off + vs.length then vs.getD (j - off) Go.undef else cur.getD j Go.undef := by
  have h1 : (cur.take off).length = off := by simp; omega
  have h2 : (cur.take off ++ vs).length = off + vs.length := by simp; omega
  simp only [List.getD_eq_getElem?_getD]
  congr 1
  split
  · rename_i hk
    rw [List.append_assoc, List.getElem?_append_right (by omega), h1, List.getElem?_append_left (by omega)]
  · rename_i hk
    by_cases h3 : j < off
    · rw [List.append_assoc, List.getElem?_append_left (by omega), List.getElem?_take, if_pos h3]
    · rw [List.getElem?_append_right (by omega), h2, List.getElem?_drop, show off + vs.length + (j - (off + vs.length)) = j by omega]

/-- What an operation that makes or turns an object does. -/
theorem eff_wp (hE : Ok E P) {F0 : Frz} {w0 : World} {F : Frz} {β : Bet} {s : St RT den} {a : Act} {w : World} (h : Rel E F0 w0 F β s a w) (o : Oper) {d : D RT den} {os : List (Ob RT den)}
    (hv : eff E s o.type o.op = some (d, os)) {K : Act → World → Prop} {Q : Exit → Act → World → Prop}
    (next : ∀ F' β' v w', Rel E F0 w0 F' β' { s with objs := os } a w' → VRep E F' w' β' d v → (∀ i, i < s.objs.length → β i = none → β' i = none ∧ os[i]? = s.objs[i]?) → K (a.put o.dst v) w') : o.wp P a w K Q := by
  obtain ⟨dst, op, ty, pos, after, guard⟩ := o
  cases op <;> dsimp only at hv <;> unfold eff at hv <;> dsimp only at hv <;> try (simp only [reduceCtorEq] at hv; done)
  case box t x =>
    cases hfl : (E.ev s t x).cells.all D.flat with
    | false => simp [hfl] at hv
    | true =>
      simp only [hfl, cond_true, Option.some.injEq, Prod.mk.injEq] at hv
      obtain ⟨rfl, rfl⟩ := hv
      obtain ⟨c1, c2, c3⟩ := (ev_rep h t x).cells hfl
      have hle := Bet.le_with (β := β) w.heap.size 0 h.last
      refine wp_value' (v := .pointer (some (at' w.heap.size 0))) (w' := w.alloc (.cells (a.eval x).cells t)) (by simp [execOp, Instr.box, newVar, newRow, at'])
        (next F _ _ _ (h.fresh (a.eval x).cells t 0 (.box (E.ev s t x).cells) (fun w' hk hh => ⟨_, t, hh, c1.symm, fun j c hc => (c2 j c hc).mono (fun _ _ h => h) hk hle⟩)) (.ref _ 0 _ 0 (by simp [Bet.with])) (fun i hi hn => ⟨?_, List.getElem?_append_left hi⟩))
      unfold Bet.with
      rw [if_neg (by omega)]
      exact hn
  case store t x y =>
    simp only [Option.bind_eq_some_iff] at hv
    obtain ⟨n, hn, hv⟩ := hv
    cases hfl : (E.ev s t y).cells.all D.flat && decide ((E.ev s t y).cells.length = n) with
    | false => simp [hfl] at hv
    | true =>
      simp only [hfl, cond_true] at hv
      simp only [Bool.and_eq_true, decide_eq_true_eq] at hfl
      obtain ⟨hfl, hlen⟩ := hfl
      obtain ⟨c1, c2, c3⟩ := (ev_rep h t y).cells hfl
      have hx := ev_rep h 0 x
      generalize E.ev s 0 x = dx at hx hv
      obtain ⟨vx, hvx⟩ : ∃ v, a.eval x = v := ⟨_, rfl⟩
      rw [hvx] at hx
      have hsize : (a.eval y).cells.size = n := by omega
      cases hx <;> try (simp only [reduceCtorEq] at hv; done)
      · rename_i o off b m hb
        dsimp only at hv
        split at hv
        · rename_i cs hob
          simp only [Option.bind_eq_some_iff] at hv
          obtain ⟨cs', hput, hv⟩ := hv
          simp only [Option.some.injEq, Prod.mk.injEq] at hv
          obtain ⟨rfl, rfl⟩ := hv
          obtain ⟨cur, e, hh, hsz, hr⟩ := h.objs o _ (obj_some hob (by simp)) b m hb
          obtain ⟨p1, p2, p3⟩ := put_get hput
          have hfit : off + n ≤ cur.size := by omega
          have hrun := run_storeAt hE hn hsize hh hfit c3
          refine wp_skip' (w' := w.setRow b (cur.toList.take off ++ (a.eval y).cells.toList ++ cur.toList.drop (off + n)).toArray) (by simp only [execOp, hvx, Sem.run_bind, hrun, Result.andThen_ok, Sem.run_pure])
            (next F β _ _ (h.turn hb _ (.box cs') ⟨_, e, setRow_heap w b cur _ e _ hh, by simp; omega, fun j c hc => ?_⟩) .undef (fun i hi hno => ⟨hno, List.getElem?_set_ne (fun e => by subst e; rw [hb] at hno; cases hno)⟩))
          have hj := p3 j c hc
          have hl := laid_get cur.toList (a.eval y).cells.toList off (by simp; omega) j
          simp only [Array.length_toList, hsize] at hl
          have e2 : (cur.toList.take off ++ (a.eval y).cells.toList ++ cur.toList.drop (off + n)).toArray.getD j Go.undef = (cur.toList.take off ++ (a.eval y).cells.toList ++ cur.toList.drop (off + n)).getD j Go.undef := by rw [← getD_toList]
          rw [e2, hl]
          have hk := keeps_setRow h hb (cur.toList.take off ++ (a.eval y).cells.toList ++ cur.toList.drop (off + n)).toArray
          rw [hlen] at hj
          split at hj
          · rename_i hin
            rw [if_pos hin, getD_toList]
            exact (c2 _ c hj).mono (fun _ _ h => h) hk (Bet.le_refl _)
          · rename_i hin
            rw [if_neg hin, getD_toList]
            exact (hr j c hj).mono (fun _ _ h => h) hk (Bet.le_refl _)
        · simp at hv
      · rename_i o z k off b m hkm hb
        dsimp only at hv
        split at hv
        · rename_i τ m' f hob
          split at hv
          · rename_i hk1
            have hk2 := hkm
            simp only [Option.bind_eq_some_iff] at hv
            obtain ⟨cs', hput, y', hdec, hv⟩ := hv
            simp only [Option.some.injEq, Prod.mk.injEq] at hv
            obtain ⟨rfl, rfl⟩ := hv
            obtain ⟨hmm, cur, e, hh, hsz, hr⟩ := h.objs o _ (obj_some hob (by simp)) b m hb
            subst hmm
            obtain ⟨p1, p2, p3⟩ := put_get hput
            have hcs := hE.dec τ _ y' hdec
            have e0 : (k + 1) * E.size τ ≤ m * E.size τ := Nat.mul_le_mul_right _ hk2
            rw [Nat.add_mul, Nat.one_mul, hk1] at e0
            rw [hE.size, hk1] at p1
            rw [hk1] at hsz
            have hfit : k * z + off + n ≤ cur.size := by omega
            have hrun := run_storeAt hE hn hsize hh hfit c3
            refine wp_skip' (w' := w.setRow b (cur.toList.take (k * z + off) ++ (a.eval y).cells.toList ++ cur.toList.drop (k * z + off + n)).toArray) (by simp only [execOp, hvx, Sem.run_bind, hrun, Result.andThen_ok, Sem.run_pure])
              (next F β _ _ (h.turn hb _ (.row τ m _) ⟨rfl, _, e, setRow_heap w b cur _ e _ hh, by rw [hk1]; simp; omega, fun i j c hi hc => ?_⟩) .undef (fun i hi hno => ⟨hno, List.getElem?_set_ne (fun e => by subst e; rw [hb] at hno; cases hno)⟩))
            replace hc : (E.cells τ (if i = k then y' else f i))[j]? = some c := hc
            have hl := laid_get cur.toList (a.eval y).cells.toList (k * z + off) (by simp; omega) (i * z + j)
            simp only [Array.length_toList, hsize] at hl
            have e2 : (cur.toList.take (k * z + off) ++ (a.eval y).cells.toList ++ cur.toList.drop (k * z + off + n)).toArray.getD (i * z + j) Go.undef = (cur.toList.take (k * z + off) ++ (a.eval y).cells.toList ++ cur.toList.drop (k * z + off + n)).getD (i * z + j) Go.undef := by rw [← getD_toList]
            rw [hk1, e2, hl]
            have hkp := keeps_setRow h hb (cur.toList.take (k * z + off) ++ (a.eval y).cells.toList ++ cur.toList.drop (k * z + off + n)).toArray
            have hpure : c.pure = true := by
              have hp := hE.pure τ (if i = k then y' else f i)
              simp only [List.all_eq_true] at hp
              exact hp c (getD_mem hc)
            have hjz : j < z := by
              rw [← hk1, ← hE.size τ (if i = k then y' else f i)]
              exact (List.getElem?_eq_some_iff.1 hc).1
            by_cases hik : i = k
            · subst hik
              rw [if_pos rfl] at hc
              rw [hcs, List.getElem?_map] at hc
              cases hq : cs'[j]? with
              | none => simp [hq] at hc
              | some d' =>
                simp only [hq, Option.map_some, Option.some.injEq] at hc
                have hj := p3 j d' hq
                rw [hlen] at hj
                split at hj
                · rename_i hin
                  rw [if_pos (by omega), getD_toList, show i * z + j - (i * z + off) = j - off by omega]
                  have := norm_rep (c2 _ d' hj)
                  rw [hc] at this
                  exact (this.pure hpure).mono (fun _ _ h => h) hkp (Bet.le_refl _)
                · rename_i hin
                  rw [if_neg (by omega), getD_toList]
                  have := hr i j d' hk2 hj
                  rw [hk1] at this
                  have := norm_rep this
                  rw [hc] at this
                  exact this.mono (fun _ _ h => h) hkp (Bet.le_refl _)
            · rw [if_neg hik] at hc
              have hout : ¬ (k * z + off ≤ i * z + j ∧ i * z + j < k * z + off + n) := by
                rcases Nat.lt_or_gt_of_ne hik with hlt | hlt
                · have : (i + 1) * z ≤ k * z := Nat.mul_le_mul_right _ hlt
                  rw [Nat.add_mul, Nat.one_mul] at this
                  omega
                · have : (k + 1) * z ≤ i * z := Nat.mul_le_mul_right _ hlt
                  rw [Nat.add_mul, Nat.one_mul] at this
                  omega
              rw [if_neg hout, getD_toList]
              have := hr i j c hi hc
              rw [hk1] at this
              exact this.mono (fun _ _ h => h) hkp (Bet.le_refl _)
          · simp at hv
        · simp at hv
  case makeSlice t l c =>
    simp only [Option.bind_eq_some_iff] at hv
    obtain ⟨e, he, by', hby, τ, hτ, zc, hzc, y, hy, hv⟩ := hv
    have hl := ev_rep h 0 l
    have hc := ev_rep h 0 c
    generalize E.ev s 0 l = dl at hl hv
    generalize E.ev s 0 c = dc at hc hv
    split at hv
    · rename_i k n k' m
      split at hv
      · rename_i hk
        obtain ⟨hk1, hk2, hk3, hk4⟩ := hk
        subst hk2
        simp only [Option.some.injEq, Prod.mk.injEq] at hv
        obtain ⟨rfl, rfl⟩ := hv
        obtain ⟨i, z, h1, h2, h3, h4, h5, h6⟩ := zero_rep hE hzc
        have hib : i.bytes = by' := by have := hE.bytes e by' hby; simpa [h1] using this
        have hcs := hE.dec τ _ y hy
        have hts : E.size τ = zc.length := by rw [← hE.size τ y, hcs]; simp
        have hrun := run_make (P := P) w t e i z (hE.elem t e he) h1 h2 k k' n n hk1 (Int.le_refl _) (by rw [hib]; exact hk3) hk4
        refine wp_value' (v := .slice (some (at' w.heap.size 0)) n.toNat n.toNat) (w' := w.alloc (.cells (madeCells z.cells (n.toNat * i.size)) e)) (by simp [execOp, hl.toInt, hc.toInt, hrun, at'])
          (next F _ _ _ (h.fresh _ e n.toNat (.row τ n.toNat fun _ => y) (fun w' hkp hh => ⟨rfl, _, e, hh, by rw [size_madeCells, hts, h4], fun i' j c' hi' hc' => ?_⟩)) (.os _ _ _ _ n.toNat (by simp [Bet.with]) (Nat.le_refl _) (Nat.le_refl _)) (fun i hi hn => ⟨?_, List.getElem?_append_left hi⟩))
        · have hjz : j < z.cells.size := by rw [h3, ← hts, ← hE.size τ y]; exact (List.getElem?_eq_some_iff.1 hc').1
          rw [hts, ← h3, h4, ← h3, madeCells_get _ _ _ _ hjz (by
            have : (i' + 1) * z.cells.size ≤ n.toNat * z.cells.size := Nat.mul_le_mul_right _ hi'
            rw [Nat.add_mul, Nat.one_mul] at this
            omega)]
          rw [hcs, List.getElem?_map] at hc'
          cases hq : zc[j]? with
          | none => simp [hq] at hc'
          | some d' =>
            simp only [hq, Option.map_some, Option.some.injEq] at hc'
            rw [← hc']
            exact norm_rep (h6 F w' j d' hq)
        · unfold Bet.with
          rw [if_neg (by omega)]
          exact hn
      · simp at hv
    · simp at hv

end Go.Proofs.Ytnfippmeficfjaa.Vm
