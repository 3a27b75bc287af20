
/- The value machine: what a reader sees of own memory; new blocks; the values of the operations that turn no object. Conditions: none. -/
import Derived.Test.YtcmfekgdlaffkaaVmD
import Derived.Great.BuildSlice
namespace Go.Proofs.Ytcmfekgdlaffkaa.Vm
open Go Go.RowKit
set_option linter.unusedVariables false
set_option linter.unusedSimpArgs false
variable {RT : Type} {den : RT → Type} {E : Env RT den} {P : Program}
theorem norm_rep {F : Frz} {w : World} {β : Bet} {d : D RT den} {v : Value} (h : VRep E F w β d v) : VRep E F w β (norm E d) v := by
 cases h with
 | emp z τ a h1 h2 h3 => exact .rs (some z) τ 0 _ a 0 0 0 (fun _ _ => Go.undef) (by simp) (by simpa using h1) (by simpa using h2) (by simp) (by simp) (by simp) (by simp) (by simp)
 | int k n => exact .int k n
 | bool b => exact .bool b
 | str s => exact .str s
 | undef => exact .undef
 | q v => exact .q v
 | nil => exact .nil
 | ref o off b m h => exact .ref o off b m h
 | eref o sz j off b m h h' => exact .eref o sz j off b m h h'
 | rptr cs b o u h1 h2 => exact .rptr cs b o u h1 h2
 | rs z τ n f a cap b o u h1 h2 h3 h4 h5 h6 h7 h8 => exact .rs z τ n f a cap b o u h1 h2 h3 h4 h5 h6 h7 h8
 | os o len cap b m h h' h'' => exact .os o len cap b m h h' h''
 | os0 o a h => exact .os0 o a h
 | osn o i j len cap b m h h' h'' => exact .osn o i j len cap b m h h' h''
 | osn0 o i j a h => exact .osn0 o i j a h
 | osp o sz off len cap b m h h' h'' => exact .osp o sz off len cap b m h h' h''
 | osp0 o sz off a h => exact .osp0 o sz off a h
 | lit τ cs b o u h0 h1 h2 => exact .lit τ cs b o u h0 h1 h2
 | fn f cap vs h1 h2 => exact .fn f cap vs h1 h2
 | agg cs vs h1 h2 => exact .agg cs vs h1 h2
 | tup cs vs h1 h2 => exact .tup cs vs h1 h2
theorem Rel.grow {F0 : Was} {w0 : World} {F F' : Frz} {β : Bet} {s : St RT den} {a : Act} {w w' : World} (h : Rel E F0 w0 F β s a w) (hb : Below w.heap.size w w') (h1 : ∀ b o, F b o → F' b o)
  (h2 : ∀ b o, F' b o → F b o ∨ w.heap.size ≤ b) (h3 : ∀ b o, F' b o → b < w'.heap.size) : Rel E F0 w0 F' β s a w' := by
 have hk : Keeps F w w' := fun b o u hf hc => by rw [hb.cell (p := at' b o) (h.frz b o hf)]; exact hc
 refine ⟨h.defers, h.size, fun i d hd => (h.slots i d hd).mono h1 hk (Bet.le_refl _), ?_, ?_, h.inj, h.below.trans (.of (hb.mono h.below.size)), h3, fun b o hf => h1 b o (h.frz1 b o hf), fun b o hf => (h2 b o hf).elim (h.frz2 b o) (fun hge => .inr (.inl (Nat.le_trans h.below.size hge))), h.place, h.placeH, h.hid.step (fun _ h => h) h1 (fun b o hf => (h2 b o hf).elim .inl (fun hge => .inr (h.hid.off_new hge))) hk hb.size rfl (fun o b m hβ => .inl ⟨m, hβ⟩) (fun _ _ ho _ => ho)
  (fun o l τ n p f ho b m hβ => ⟨ho, hβ, hb.block b (h.names o b m hβ).2.1⟩) (fun o p b m hβ => hb.block b (h.hid.names o p b m hβ).1) (Nat.le_refl _), h.tab⟩
 ·intro o ob ho b m hβ
  have hlt := (h.names o b m hβ).2.1
  have := h.objs o ob ho b m hβ
  cases ob with
  | box cs =>
   obtain ⟨cur, e, hh, hs, hr⟩ := this
   exact ⟨cur, e, by rw [hb.block b hlt]; exact hh, hs, fun j c hc => (hr j c hc).mono h1 hk (Bet.le_refl _)⟩
  | row l τ n f =>
   obtain ⟨hm, hm1, cur, e, hh, hs, hr⟩ := this
   exact ⟨hm, hm1, cur, e, by rw [hb.block b hlt]; exact hh, hs, fun i j c hi hc => (hr i j c hi hc).mono h1 hk (Bet.le_refl _)⟩
  | deep => trivial
  | gone => trivial
 ·intro o b m hβ
  obtain ⟨n1, n2, n3, n4⟩ := h.names o b m hβ
  exact ⟨n1, Nat.lt_of_lt_of_le n2 hb.size, fun off hf => (h2 b off hf).elim (n3 off) (by omega), n4⟩
def Bet.with (β : Bet) (o b : Nat) (m : Nat × Nat) : Bet := ⟨fun i => if i = o then some (b, m) else β i, β.h⟩
theorem Bet.with_r (β : Bet) (o b : Nat) (m : Nat × Nat) (i : Nat) : (β.with o b m) i = if i = o then some (b, m) else β i := rfl
theorem Bet.le_with {β : Bet} {o : Nat} (b : Nat) (m : Nat × Nat) (h : β o = none) : β.le (β.with o b m) := ⟨fun i c hc => by
 rw [Bet.with_r]
 split
 ·rename_i e; subst e; simp [h] at hc
 ·exact hc, fun _ _ _ hc => hc⟩
theorem ORep.mono {F F' : Frz} {w w' : World} {β β' : Bet} {b : Nat} {m : Nat × Nat} {ob : Ob RT den} (h : ORep E F w β b m ob) (h1 : ∀ b o, F b o → F' b o) (hk : Keeps F w w') (hb : w'.heap[b]? = w.heap[b]?) (hβ : β.le β') : ORep E F' w' β' b m ob := by
 cases ob with
 | box cs =>
  obtain ⟨cur, e, hh, hs, hr⟩ := h
  exact ⟨cur, e, by rw [hb]; exact hh, hs, fun j c hc => (hr j c hc).mono h1 hk hβ⟩
 | row l τ n f =>
  obtain ⟨hm, hm1, cur, e, hh, hs, hr⟩ := h
  exact ⟨hm, hm1, cur, e, by rw [hb]; exact hh, hs, fun i j c hi hc => (hr i j c hi hc).mono h1 hk (Bet.le_refl _)⟩
 | deep => trivial
 | gone => trivial
theorem Rel.own {F0 : Was} {w0 : World} {F : Frz} {β : Bet} {s : St RT den} {a : Act} {w : World} {o b : Nat} {m : Nat × Nat} {ob : Ob RT den} (h : Rel E F0 w0 F β s a w) (ho : β o = none) (hob : s.objs[o]? = some ob) (hr : ORep E F w (β.with o b m) b m ob)
  (hb1 : w0.heap.size ≤ b ∨ F0.lent b) (hb2 : b < w.heap.size) (hb3 : ∀ off, ¬ F b off) (hb4 : ∀ i m, β i ≠ some (b, m)) (hb5 : β.off b) (hnl : ob.isLent = false) (hng : s.objs[o]? ≠ some .gone) (hdp : ∀ l τ n p f, ob = .deep l τ n p f → DRep E F w (β.h o) b m τ n p f) : Rel E F0 w0 F (β.with o b m) s a w := by
 have hle := Bet.le_with (β := β) (o := o) b m ho
 refine ⟨h.defers, h.size, fun i d hd => (h.slots i d hd).mono (fun _ _ h => h) (Keeps.refl _ _) hle, ?_, ?_, ?_, h.below, h.frz, h.frz1, h.frz2, fun o' hx => ⟨?_, (h.place o' hx).2⟩, h.placeH, ⟨h.hid.ok, h.hid.names, fun o1 p1 b1 m1 o2 m2 h1 h2 => ?_, h.hid.inj, fun o1 q1 x1 h1 => ?_, fun o1 l τ n p f h1 b1 m1 h2 => ?_⟩, h.tab⟩
 rotate_right 4
 ·have hne : o' ≠ o := fun e => by
   subst e
   obtain ⟨ob', k1, k2⟩ := (h.place o' hx).2
   rw [hob] at k1; cases k1
   rw [hnl] at k2; cases k2
  rw [Bet.with_r, if_neg hne]
  exact (h.place o' hx).1
 ·rw [Bet.with_r] at h2
  split at h2
  ·cases h2; exact absurd h1 (hb5 o1 p1 m1)
  ·exact h.hid.real o1 p1 b1 m1 o2 m2 h1 h2
 ·rcases h.hid.bound o1 q1 x1 h1 with h9 | ⟨i, q', l, τ, n, p, f, e1, e2, e3, y, e4⟩
  ·exact .inl h9
  ·exact .inr ⟨i, q', l, τ, n, p, f, e1, e2, e3, y, hle.1 o1 y e4⟩
 ·rw [Bet.with_r] at h2
  split at h2
  ·rename_i e; subst e; cases h2
   rw [hob] at h1; cases h1
   exact hdp l τ n p f rfl
  ·exact h.hid.reps o1 l τ n p f h1 b1 m1 h2
 ·intro i ob' hi c m' hc
  rw [Bet.with_r] at hc
  split at hc
  ·rename_i e; subst e
   rw [hob] at hi; cases hi; cases hc
   exact hr
  ·exact (h.objs i ob' hi c m' hc).mono (fun _ _ h => h) (Keeps.refl _ _) rfl hle
 ·intro i c m' hc
  rw [Bet.with_r] at hc
  split at hc
  ·rename_i e; subst e; cases hc
   exact ⟨hb1, hb2, hb3, (List.getElem?_eq_some_iff.1 hob).1⟩
  ·exact h.names i c m' hc
 ·intro i j c m1 m2 hi hj
  rw [Bet.with_r] at hi hj
  split at hi <;> split at hj
  ·rename_i e1 e2; rw [e1, e2]
  ·cases hi; exact absurd hj (hb4 _ _)
  ·cases hj; exact absurd hi (hb4 _ _)
  ·exact h.inj i j c m1 m2 hi hj
theorem below_alloc (w : World) (o : Obj) : Below w.heap.size w (w.alloc o) := (Below.refl _ _).alloc (Nat.le_refl _) o
theorem heap_alloc_new (w : World) (o : Obj) : (w.alloc o).heap[w.heap.size]? = some o := by
 show (w.heap.push o)[w.heap.size]? = _
 simp
theorem size_alloc' (w : World) (o : Obj) : (w.alloc o).heap.size = w.heap.size + 1 := by simp
theorem cell_new (w : World) (c : Array Value) (e : TypeId) (j : Nat) (h : j < c.size) : (w.alloc (.cells c e)).cell? (at' w.heap.size j) = some (c.getD j Go.undef) := cell_own (heap_alloc_new w _) h
theorem nrm_rep {F : Frz} {w : World} {β : Bet} {d : D RT den} {v : Value} (τ : RT) (h : VRep E F w β d v) : VRep E F w β (nrm E τ d) v := by
 unfold nrm
 cases E.nilE τ
 ·exact norm_rep h
 ·exact h
theorem elems_rep (hE : Ok E P) {F0 : Was} {w0 : World} {F : Frz} {β : Bet} {s : St RT den} {a : Act} {w : World} (h : Rel E F0 w0 F β s a w) (τ : RT) (z N : Nat) (hz : E.size τ = z) :
  ∀ (ps : List (Nat × Operand)) (k : Nat) (l : List (den τ)) (cells : Array Value), elems E τ s ps k = some l → cells.size = N * z → k + ps.length ≤ N →
   ∃ vs, Instr.fill (fun i => some (i * z, z)) cells (ps.map fun x => (x.1, a.eval x.2)) = some vs ∧ vs.size = N * z ∧ l.length = ps.length ∧
    (∀ j, j < k * z → vs.getD j Go.undef = cells.getD j Go.undef) ∧ ∀ i x j c, l[i]? = some x → (E.cells τ x)[j]? = some c → VRep E F w noBet c (vs.getD ((k + i) * z + j) Go.undef) := by
 intro ps
 induction ps with
 | nil =>
  intro k l cells h1 h2 h3
  simp [elems] at h1; subst h1
  exact ⟨cells, rfl, h2, rfl, fun _ _ => rfl, by simp⟩
 | cons p ps ih =>
  intro k l cells h1 h2 h3
  obtain ⟨i, x⟩ := p
  simp only [elems] at h1
  split at h1
  ·rename_i hik; subst hik
   simp only [Option.bind_eq_some_iff] at h1
   obtain ⟨y, hy, l', hl', hl⟩ := h1
   have hl := Option.some.inj hl; subst hl
   have hcs := hE.dec τ _ y hy
   have hlen : (E.ev s 0 x).cells.length = z := by rw [← hz, ← hE.size τ y, hcs]; simp
   have hfl : (E.ev s 0 x).cells.all D.flat = true := by
    have hp := hE.pure τ y
    rw [hcs] at hp
    simp only [List.all_eq_true, List.mem_map, forall_exists_index, and_imp, forall_apply_eq_imp_iff₂] at hp ⊢
    intro d hd
    have := hp d hd
    unfold nrm at this
    cases E.nilE τ <;> cases d <;> simp_all [norm, D.pure, D.flat]
   obtain ⟨c1, c2, c3⟩ := (ev_rep h 0 x).cells hfl
   have hsz : (a.eval x).cells.size = z := by omega
   simp only [List.length_cons] at h3
   have hmul : (i + 1) * z ≤ N * z := Nat.mul_le_mul_right _ (by omega)
   rw [Nat.add_mul, Nat.one_mul] at hmul
   have hfit : i * z + (a.eval x).cells.size ≤ cells.size := by omega
   have hstep := fill_step (fun i => some (i * z, z)) cells i (a.eval x) (ps.map fun x => (x.1, a.eval x.2)) (i * z) z rfl hsz hfit
   have hsize2 : ((a.eval x).cells.zipIdx.foldl (fun (cs : Array Value) (x : Value × Nat) => cs.setIfInBounds (i * z + x.2) x.1) cells).size = cells.size := by
    rw [← Array.foldl_toList]; exact foldl_set _ _ _
   obtain ⟨vs, hv1, hv2, hv3, hv4, hv5⟩ := ih (i + 1) l' _ hl' (by rw [hsize2]; exact h2) (by omega)
   have hput : ∀ j, ((a.eval x).cells.zipIdx.foldl (fun (cs : Array Value) (x : Value × Nat) => cs.setIfInBounds (i * z + x.2) x.1) cells).getD j Go.undef =
     if i * z ≤ j ∧ j < i * z + z then (a.eval x).cells.toList.getD (j - i * z) Go.undef else cells.getD j Go.undef := by
    intro j
    have e := foldl_put (i * z) (a.eval x).cells.toList 0 cells j (by simpa using hfit)
    rw [← Array.foldl_toList, Array.toList_zipIdx, e]
    simp [hsz]
   have e1 : (i + 1) * z = i * z + z := by rw [Nat.add_mul, Nat.one_mul]
   refine ⟨vs, by rw [List.map_cons, hstep]; exact hv1, hv2, by simp [hv3], ?_, ?_⟩
   ·intro j hj
    rw [hv4 j (by omega), hput, if_neg (by omega)]
   ·intro m y' j c hm hc
    cases m with
    | zero =>
     simp at hm; subst hm
     have hj : j < z := by rw [← hz, ← hE.size τ y]; exact (List.getElem?_eq_some_iff.1 hc).1
     rw [Nat.add_zero, hv4 _ (by omega), hput, if_pos (by omega), show i * z + j - i * z = j by omega]
     have hp : c.pure = true := by
      have hp := hE.pure τ y
      simp only [List.all_eq_true] at hp
      exact hp c (getD_mem hc)
     rw [hcs, List.getElem?_map] at hc
     cases hd : (E.ev s 0 x).cells[j]? with
     | none => simp [hd] at hc
     | some d =>
      simp only [hd, Option.map_some, Option.some.injEq] at hc
      have hr := nrm_rep τ (c2 j d hd)
      rw [hc] at hr
      have e2 : (a.eval x).cells.toList.getD j Go.undef = (a.eval x).cells.getD j Go.undef := by simp [Array.getD, List.getD_eq_getElem?_getD, hsz, hj]
      rw [e2]
      exact hr.pure hp
    | succ m =>
     have := hv5 m y' j c (by simpa using hm) hc
     rwa [show i + 1 + m = i + (m + 1) by omega] at this
  ·simp at h1
end Go.Proofs.Ytcmfekgdlaffkaa.Vm

