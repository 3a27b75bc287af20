
/- The value machine: one operation, with the state behind it. Conditions: none. -/
import Derived.Test.YtcmfekgdlaffkaaVmG
import Derived.Laws.MakeOwn
namespace Go.Proofs.Ytcmfekgdlaffkaa.Vm
open Go Go.RowKit
set_option linter.unusedVariables false
set_option linter.unusedSimpArgs false
variable {RT : Type} {den : RT → Type} {E : Env RT den} {P : Program}
def isAlloc : Op → Bool
 | .alloc _ => true
 | _ => false
theorem getD_toList (x : Array Value) (i : Nat) : x.toList.getD i Go.undef = x.getD i Go.undef := by
 by_cases h : i < x.size
 ·simp [Array.getD, List.getD_eq_getElem?_getD, h]
 ·simp [Array.getD, List.getD_eq_getElem?_getD, h]
theorem madeCells_get (z : Array Value) (n k j : Nat) (hz : j < z.size) (hk : k * z.size + j < n) : (madeCells z n).getD (k * z.size + j) Go.undef = z.getD j Go.undef := by
 have e : (k * z.size + j) % z.size = j := by rw [Nat.add_comm, Nat.add_mul_mod_self_right, Nat.mod_eq_of_lt hz]
 simp [madeCells, Array.getD, hk, e, hz]
theorem fill_one {z : Nat} {cells : Array Value} {v : Value} (hv : v.cells.size = z) (hc : cells.size = z) : ∃ vs, Instr.fill (fun i => some (i * z, z)) cells [(0, v)] = some vs ∧ vs.size = z ∧ ∀ j, j < z → vs.getD j Go.undef = v.cells.getD j Go.undef := by
 have hfit : 0 * z + v.cells.size ≤ cells.size := by omega
 have hstep := fill_step (fun i => some (i * z, z)) cells 0 v [] (0 * z) z rfl hv hfit
 refine ⟨_, hstep.trans rfl, ?_, fun j hj => ?_⟩
 ·rw [← Array.foldl_toList, Array.toList_zipIdx]
  rw [foldl_set]; exact hc
 ·have e := foldl_put (0 * z) v.cells.toList 0 cells j (by simpa using hfit)
  rw [← Array.foldl_toList, Array.toList_zipIdx, e]
  rw [if_pos (by simp; omega)]
  simp [getD_toList]
theorem Rel.alloc (hE : Ok E P) {F0 : Was} {w0 : World} {F : Frz} {β : Bet} {s : St RT den} {a : Act} {w : World} (h : Rel E F0 w0 F β s a w) {al t : Nat} {cs : List (D RT den)} {z : Value} (hz2 : z.cells.size = cs.length)
  (hz3 : ∀ (F : Frz) (w : World) j c, cs[j]? = some c → VRep E F w noBet c (z.cells.getD j Go.undef)) (ho : β al = none) (hob : s.objs[al]? = some (.box false cs)) :
  Rel E F0 w0 F (β.with al w.heap.size (0, 0)) s a (w.alloc (.cells z.cells t)) := by
 have hg := h.grow (below_alloc w (.cells z.cells t)) (F' := F) (fun _ _ h => h) (fun _ _ h => .inl h) (fun b o hf => by rw [size_alloc']; have := h.frz b o hf; omega)
 refine hg.own ho hob ⟨z.cells, t, heap_alloc_new w _, hz2, fun j c hc => (hz3 F _ j c hc).up⟩ (.inl h.below.size) (by rw [size_alloc']; omega) (fun off hf => by have := h.frz _ _ hf; omega) (fun i m hi => no_new h i m hi) (h.hid.off_new (Nat.le_refl _)) rfl (by rw [hob]; simp) (fun l τ n p f e => by cases e)
theorem val_wp (hE : Ok E P) {pc : Nat → List (D RT den) → Option (D RT den)} (hpc : ∀ f xs r, pc f xs = some r → Good E P f xs r) {F0 : Was} {w0 : World} {F : Frz} {β : Bet} {s : St RT den} {a : Act} {w : World} (h : Rel E F0 w0 F β s a w) (o : Oper) (al : Nat) {d : D RT den}
  (hal : ∀ t, o.op = .alloc t → β al = none ∧ ∃ cs, E.zero t = some cs ∧ s.objs[al]? = some (.box false cs)) (hv : val E pc s al o.type o.op = some d) {K : Act → World → Prop} {Q : Exit → Act → World → Prop}
  (next : ∀ F' β' v w', Rel E F0 w0 F' β' s a w' → VRep E F' w' β' d v → (∀ i, β i = none → ¬ (i = al ∧ isAlloc o.op = true) → β' i = none) → K (a.put o.dst v) w') : o.wp P a w K Q := by
 obtain ⟨dst, op, ty, pos, after, guard⟩ := o
 by_cases hn : (match op with | .alloc _ | .buildSlice .. | .call { callee := .value _, .. } => False | _ => True)
 ·obtain ⟨v, h1, h2⟩ := val_run hE h ⟨dst, op, ty, pos, after, guard⟩ al hn hv
  exact wp_value h1 (next F β v w h h2 (fun i hi _ => hi))
 ·cases op <;> first | (exfalso; exact hn trivial) | skip
  case alloc t =>
   dsimp only at hv
   simp only [val, Option.bind_eq_some_iff] at hv
   obtain ⟨cs, hz, hv⟩ := hv
   have hv := Option.some.inj hv; subst hv
   obtain ⟨ho, cs', hz', hob⟩ := hal t rfl
   rw [hz] at hz'; cases hz'
   obtain ⟨i, z, h1, h2, h3, h4, h5, h6⟩ := zero_rep hE hz
   refine wp_value' (v := .pointer (some (at' w.heap.size 0))) (w' := w.alloc (.cells z.cells t)) (by simp [execOp, alloc_run hE h1 h2]) (next F (β.with al w.heap.size (0, 0)) _ _ (h.alloc hE h3 h6 ho hob) (.ref al 0 _ _ (by simp [Bet.with]; rfl)) (fun i hi hne => ?_))
   rw [Bet.with_r, if_neg (fun e => hne ⟨e, rfl⟩)]
   exact hi
  case call c =>
   obtain ⟨callee, args, argTypes⟩ := c
   cases callee <;> first | (exfalso; exact hn trivial) | skip
   rename_i f0
   dsimp only at hv
   unfold val at hv
   dsimp only at hv
   have hf := ev_rep h 0 f0
   generalize E.ev s 0 f0 = df at hf hv
   obtain ⟨vf, hvf⟩ : ∃ v, a.eval f0 = v := ⟨_, rfl⟩
   rw [hvf] at hf
   cases hf <;> try (simp only [reduceCtorEq] at hv; done)
   rename_i f cap vs h1 h2
   obtain ⟨a1, a2⟩ := args_rep h (E.par f) args.toList
   obtain ⟨c1, c2⟩ := call_wp hE hpc h (vs := args.map a.eval ++ vs) (by simp [a1, h1]) (fun i x hx => by
    rw [List.getElem?_append] at hx
    split at hx
    ·rename_i hlt
     have := a2 i x hx
     rw [← Array.toList_map, getD_toList] at this
     have hi : i < args.size := by rw [a1] at hlt; simpa using hlt
     have e : (args.map a.eval ++ vs).getD i Go.undef = (args.map a.eval).getD i Go.undef := by
      have hi2 : i < args.size + vs.size := by omega
      simp [Array.getD, hi, hi2]
     rw [e]; exact this
    ·rename_i hge
     have hi : args.size ≤ i := by rw [a1] at hge; simpa using hge
     have := h2 _ x hx
     rw [a1] at this
     have hlt : i - args.toList.length < vs.size := by
      have := (List.getElem?_eq_some_iff.1 hx).1
      rw [a1] at this; omega
     have e : (args.map a.eval ++ vs).getD i Go.undef = vs.getD (i - args.toList.length) Go.undef := by
      have hi1 : ¬ i < args.size := by omega
      have hlt' : i - args.size < vs.size := by simpa using hlt
      have hi2 : i < args.size + vs.size := by omega
      simp [Array.getD, hi2, hlt', Array.getElem_append, hi1]
     rw [e]; exact this) hv
   unfold Oper.wp
   have hrun : (execOp a.eval ⟨dst, .call ⟨.value f0, args, argTypes⟩, ty, pos, after, guard⟩).run P w = .ok (.enter f (args.map a.eval ++ vs)) w := by
    simp [execOp, resolve, hvf, Deferred.ofValue, invoke, run_callFunc c1]
   rw [hrun]
   refine c2.mono ?_
   rintro e w' ⟨v, F', rfl, hr, hd⟩
   exact next F' β v w' hr hd (fun i hi _ => hi)
  case buildSlice t len ps =>
   dsimp only at hv
   simp only [val, Option.bind_eq_some_iff] at hv
   obtain ⟨e, he, τ, hτ, z, hz, zc, hzc, hv⟩ := hv
   split at hv
   ·rename_i hk
    obtain ⟨k1, k2, k3, k4⟩ := hk
    obtain ⟨i, zv, h1, h2, h3, h4, h5, h6⟩ := zero_rep hE hzc
    have hsz := hE.sz e z hz
    have hiz : i.size = z := by simpa [h1] using hsz
    cases len with
    | zero =>
     simp only [Option.some.injEq] at hv; subst hv
     have hps : ps = #[] := Array.eq_empty_of_size_eq_zero k1
     subst hps
     refine wp_value' (v := .slice (some (at' w.heap.size 0)) 0 0) (w' := w.alloc (.cells #[] e)) ?_ (next F β _ _ (h.grow (below_alloc w _) (fun _ _ h => h) (fun _ _ h => .inl h) (fun b o hf => by rw [size_alloc']; have := h.frz b o hf; omega)) (.emp false τ _ (by simp) (by simp) (by simp [at'])) (fun i hi _ => hi))
     simp [execOp, Instr.buildSlice, run_underlying (hE.elem t e he), run_sizeOf hE hz, Instr.fill, newRow, at', Array.range_zero']
    | succ len =>
     cases hl : elemsL E τ s ps.toList 0 with
     | none =>
      simp only [hl] at hv
      split at hv
      ·rename_i x hpl
       cases hq : Nat.beq (E.ev s 0 x).cells.length (E.size τ) && (E.ev s 0 x).cells.all D.fl2 with
       | false => rw [hq] at hv; cases hv
       | true =>
        rw [hq] at hv
        have hv := Option.some.inj hv; subst hv
        simp only [Bool.and_eq_true] at hq
        obtain ⟨hq1, hfl⟩ := hq
        have hfl : (E.ev s 0 x).cells.all D.flat = true := List.all_eq_true.mpr fun d hd => D.fl2_flat (List.all_eq_true.mp hfl d hd)
        have hq1 := Nat.eq_of_beq_eq_true hq1
        have hps : ps.toList.length = len + 1 := by simpa using k1
        rw [hpl] at hps
        have hlen0 : len = 0 := by simpa using hps.symm
        subst hlen0
        have hzz : E.size τ = z := hE.rt e τ z hτ hz
        obtain ⟨c1, c2, c3⟩ := (ev_rep h 0 x).cells hfl
        have hcz : (a.eval x).cells.size = z := by omega
        obtain ⟨vs, v1, v2, v3⟩ := fill_one (z := z) (cells := (Array.range (1 * z)).map (zv.cells[· % zv.cells.size]!)) (v := a.eval x) hcz (by simp)
        have hps1 : ps = #[(0, x)] := Array.toList_inj.1 (by simpa using hpl)
        subst hps1
        have hrun := run_buildSlice (P := P) w t e 1 #[(0, a.eval x)] vs i zv (hE.elem t e he) h1 h2 (by rw [hiz]; omega) (by rw [hiz]; omega) (by rw [hiz]; simpa using v1)
        have hb := below_alloc w (.cells vs e)
        have hfr : ∀ (b o : Nat), (F b o ∨ b = w.heap.size) → b < (w.alloc (.cells vs e)).heap.size := fun b o hf => by
         rw [size_alloc']
         rcases hf with hf | rfl
         ·have := h.frz b o hf; omega
         ·omega
        refine wp_value' (v := .slice (some (at' w.heap.size 0)) (0 + 1) (0 + 1)) (w' := w.alloc (.cells vs e)) (by simp [execOp, hrun, at']) (next (fun b o => F b o ∨ b = w.heap.size) β _ _ (h.grow hb (fun _ _ => .inl) (fun b o hf => hf.imp id (by omega)) hfr) ?_ (fun i hi _ => hi))
        refine .lit τ _ w.heap.size 0 (fun j => vs.getD j Go.undef) hq1 (fun j c hc => ?_) (fun j hj => ⟨.inr rfl, ?_⟩)
        ·have hj := (List.getElem?_eq_some_iff.1 hc).1
         rw [v3 j (by omega)]
         exact (c2 j c hc).mono (fun _ _ => .inl) (fun b o u hf hc => by rw [hb.cell (p := at' b o) (h.frz b o hf)]; exact hc) (Bet.le_refl _)
        ·rw [Nat.zero_add]
         exact cell_new w vs e _ (by omega)
      ·cases hv
     | some l =>
     simp only [hl] at hv
     have hl : elems E τ s ps.toList 0 = some l := by
      unfold elemsL at hl
      cases hq : E.lit1 τ <;> rw [hq] at hl
      ·exact hl
      ·cases hl
     have hv := Option.some.inj hv; subst hv
     have hps : ps.toList.length = len + 1 := by simpa using k1
     obtain ⟨vs, v1, v2, v3, v4, v5⟩ := elems_rep hE h τ z (len + 1) (hE.rt e τ z hτ hz) ps.toList 0 l ((Array.range ((len + 1) * z)).map (zv.cells[· % zv.cells.size]!)) hl (by simp) (by omega)
     have hsm : (len + 1) * z ≤ 1000 * 1000 := Nat.mul_le_mul k2 k3
     have hpos : (len + 1) * z ≠ 0 := Nat.mul_ne_zero (by omega) (by omega)
     have hrun := run_buildSlice (P := P) w t e (len + 1) (ps.map fun (x : Nat × Operand) => (x.1, a.eval x.2)) vs i zv (hE.elem t e he) h1 h2 (by rw [hiz]; omega) (by rw [hiz]; exact hpos) (by rw [hiz]; simpa using v1)
     have hb := below_alloc w (.cells vs e)
     have hfr : ∀ (b o : Nat), (F b o ∨ b = w.heap.size) → b < (w.alloc (.cells vs e)).heap.size := fun b o hf => by
      rw [size_alloc']
      rcases hf with hf | rfl
      ·have := h.frz b o hf; omega
      ·omega
     have hzz : E.size τ = z := hE.rt e τ z hτ hz
     refine wp_value' (v := .slice (some (at' w.heap.size 0)) (len + 1) (len + 1)) (w' := w.alloc (.cells vs e)) (by simp [execOp, hrun, at']) (next (fun b o => F b o ∨ b = w.heap.size) β _ _ (h.grow hb (fun _ _ => .inl) (fun b o hf => hf.imp id (by omega)) hfr) ?_ (fun i hi _ => hi))
     refine .rs (some false) τ (len + 1) _ _ (len + 1) w.heap.size 0 (fun i j => vs.getD (i * z + j) Go.undef) (fun _ => rfl) (by simp) (by simp) (by simp [at']) (Nat.le_refl _) (by simp) (fun i j c hi hc => ?_) (fun i j hi hj => ⟨.inr rfl, ?_⟩)
     ·have hil : i < l.length := by omega
      have e1 : l.getD i (E.dflt τ) = l[i] := by simp [List.getD_eq_getElem?_getD, hil]
      rw [e1] at hc
      have := v5 i l[i] j c (List.getElem?_eq_getElem hil) hc
      rw [Nat.zero_add] at this
      exact this.mono (fun _ _ => .inl) (fun b o u hf hc => by rw [hb.cell (p := at' b o) (h.frz b o hf)]; exact hc) (Bet.le_refl _)
     ·rw [hzz, Nat.zero_add]
      refine cell_new w vs e _ ?_
      rw [v2]
      have : (i + 1) * z ≤ (len + 1) * z := Nat.mul_le_mul_right _ hi
      rw [Nat.add_mul, Nat.one_mul] at this
      omega
   ·simp at hv
end Go.Proofs.Ytcmfekgdlaffkaa.Vm

