
/- The value machine: an operation that makes or turns an object, on the machine. Conditions: none. -/
import Derived.Test.YtcmfekgdlaffkaaVmH
import Derived.Laws.AppendOwn
namespace Go.Proofs.Ytcmfekgdlaffkaa.Vm
open Go Go.RowKit
set_option linter.unusedVariables false
set_option linter.unusedSimpArgs false
variable {RT : Type} {den : RT → Type} {E : Env RT den} {P : Program}
theorem Rel.push {F0 : Was} {w0 : World} {F : Frz} {β : Bet} {s : St RT den} {a : Act} {w : World} (h : Rel E F0 w0 F β s a w) (l : List (Ob RT den)) : Rel E F0 w0 F β { s with objs := s.objs ++ l } a w := by
 refine ⟨h.defers, h.size, h.slots, fun o ob ho b m hb => ?_, fun o b m hb => ?_, h.inj, h.below, h.frz, h.frz1, h.frz2, fun o' hx => ⟨(h.place o' hx).1, by
   obtain ⟨ob, h1, h2⟩ := (h.place o' hx).2
   exact ⟨ob, by rw [List.getElem?_append_left (List.getElem?_eq_some_iff.1 h1).1]; exact h1, h2⟩⟩, h.placeH, ?_, h.tab⟩
 rotate_right
 ·refine h.hid.step (fun _ h => h) (fun _ _ h => h) (fun _ _ h => .inl h) (Keeps.refl _ _) (Nat.le_refl _) rfl (fun o b m hb => .inl ⟨m, hb⟩) (fun o ob ho _ => ?_) (fun o l' τ n p f ho b m hb => ?_) (fun _ _ _ _ _ => rfl) (by simp)
  ·show (s.objs ++ l)[o]? = _
   rw [List.getElem?_append_left (List.getElem?_eq_some_iff.1 ho).1]; exact ho
  ·have ho : (s.objs ++ l)[o]? = _ := ho
   rw [List.getElem?_append_left (h.names o b m hb).2.2.2] at ho
   exact ⟨ho, hb, rfl⟩
 ·have hlt := (h.names o b m hb).2.2.2
  rw [List.getElem?_append_left hlt] at ho
  exact h.objs o ob ho b m hb
 ·obtain ⟨h1, h2, h3, h4⟩ := h.names o b m hb
  exact ⟨h1, h2, h3, by simp; omega⟩
theorem Rel.last {F0 : Was} {w0 : World} {F : Frz} {β : Bet} {s : St RT den} {a : Act} {w : World} (h : Rel E F0 w0 F β s a w) : β s.objs.length = none := by
 cases hb : β s.objs.length with
 | none => rfl
 | some b => exact absurd (h.names _ b.1 b.2 hb).2.2.2 (Nat.lt_irrefl _)
theorem Rel.fresh {F0 : Was} {w0 : World} {F : Frz} {β : Bet} {s : St RT den} {a : Act} {w : World} (h : Rel E F0 w0 F β s a w) (c : Array Value) (e : TypeId) (m : Nat × Nat) (ob : Ob RT den)
  (hr : ∀ w', Keeps F w w' → w'.heap[w.heap.size]? = some (.cells c e (0, 0)) → ORep E F w' (β.with s.objs.length w.heap.size m) w.heap.size m ob) (hnl : ob.isLent = false := by rfl) (hng : ob.dg = false := by rfl) :
  Rel E F0 w0 F (β.with s.objs.length w.heap.size m) { s with objs := s.objs ++ [ob] } a (w.alloc (.cells c e)) := by
 have hg := (h.push [ob]).grow (below_alloc w (.cells c e)) (F' := F) (fun _ _ h => h) (fun _ _ h => .inl h) (fun b o hf => by rw [size_alloc']; have := h.frz b o hf; omega)
 refine hg.own h.last (by simp) (hr _ (fun b o u hf hc => by rw [(below_alloc w (.cells c e)).cell (p := at' b o) (h.frz b o hf)]; exact hc) (heap_alloc_new w _)) (.inl h.below.size) (by rw [size_alloc']; omega) (fun off hf => by have := h.frz _ _ hf; omega) (fun i m hi => no_new h i m hi) (h.hid.off_new (Nat.le_refl _)) hnl (by simp; intro e; subst e; cases hng) (fun l τ n p f e => by subst e; cases hng)
theorem keeps_setRow {F0 : Was} {w0 : World} {F : Frz} {β : Bet} {s : St RT den} {a : Act} {w : World} (h : Rel E F0 w0 F β s a w) {o b : Nat} {m : Nat × Nat} (hb : β o = some (b, m)) (cur : Array Value) : Keeps F w (w.setRow b cur) := fun b' o' u hf hc => by
 rw [cell_setRow_other w b cur (at' b' o') (fun e => by
  have e : b' = b := e
  subst e; exact (h.names o b' m hb).2.2.1 _ hf)]
 exact hc
theorem Rel.turn {F0 : Was} {w0 : World} {F : Frz} {β : Bet} {s : St RT den} {a : Act} {w : World} (h : Rel E F0 w0 F β s a w) {o b : Nat} {m : Nat × Nat} (hb : β o = some (b, m)) (cur : Array Value) (ob : Ob RT den) (hl : ∀ ob', s.objs[o]? = some ob' → ob'.isLent = true → ob.isLent = true) (hdg : ∀ ob', s.objs[o]? = some ob' → ob'.dg = false) (hdg' : ob.dg = false) (hr : ORep E F (w.setRow b cur) β b m ob) :
  Rel E F0 w0 F β { s with objs := s.objs.set o ob } a (w.setRow b cur) := by
 have hk := keeps_setRow h hb cur
 refine ⟨h.defers, h.size, fun i d hd => (h.slots i d hd).mono (fun _ _ h => h) hk (Bet.le_refl _), fun i ob' hi c m' hc => ?_, fun i c m' hc => ?_, h.inj, ?_, fun b' o' hf => by rw [setRow_size]; exact h.frz b' o' hf, h.frz1, h.frz2, fun o' hx => ⟨(h.place o' hx).1, by
   obtain ⟨ob', h1, h2⟩ := (h.place o' hx).2
   by_cases e : o' = o
   ·subst e
    exact ⟨ob, by simp [(List.getElem?_eq_some_iff.1 h1).1], hl ob' h1 h2⟩
   ·exact ⟨ob', by rw [List.getElem?_set_ne (Ne.symm e)]; exact h1, h2⟩⟩, h.placeH, ?_, h.tab⟩
 rotate_right
 ·have hlt : o < s.objs.length := (h.names o b m hb).2.2.2
  have hoff : β.off b := h.hid.off_real hb (fun e => by have := hdg _ e; cases this)
  refine h.hid.step (fun _ h => h) (fun _ _ h => h) (fun _ _ h => .inl h) hk (by rw [setRow_size]; exact Nat.le_refl _) rfl (fun o b m hb => .inl ⟨m, hb⟩) (fun i ob' hi hd => ?_) (fun i l τ n p f hi c m' hc => ?_) (fun i p c m' hc => setRow_other w b c cur (fun e => by subst e; exact hoff i p m' hc)) (by simp)
  ·show (s.objs.set o ob)[i]? = _
   rw [List.getElem?_set_ne (fun e => by subst e; rw [hdg _ hi] at hd; cases hd)]; exact hi
  ·have hi : (s.objs.set o ob)[i]? = _ := hi
   by_cases e : i = o
   ·subst e
    simp [hlt] at hi
    subst hi; cases hdg'
   ·rw [List.getElem?_set_ne (Ne.symm e)] at hi
    exact ⟨hi, hc, setRow_other w b c cur (fun e' => by subst e'; exact e (h.inj i o c _ _ hc hb))⟩
 ·by_cases hio : i = o
  ·subst hio
   rw [hb] at hc; cases hc
   have : s.objs.length > i := (h.names i b m hb).2.2.2
   simp [this] at hi
   subst hi; exact hr
  ·rw [List.getElem?_set_ne (Ne.symm hio)] at hi
   exact (h.objs i ob' hi c m' hc).mono (fun _ _ h => h) hk (setRow_other w b c cur (fun e => by subst e; exact hio (h.inj i o c _ _ hc hb))) (Bet.le_refl _)
 ·obtain ⟨h1, h2, h3, h4⟩ := h.names i c m' hc
  exact ⟨h1, by rw [setRow_size]; exact h2, h3, by simpa using h4⟩
 ·refine h.below.trans ⟨rfl, rfl, rfl, by rw [setRow_size]; exact Nat.le_refl _, fun k hk' hno => setRow_other w b k cur (fun e => by subst e; rcases (h.names o k m hb).1 with h9 | h9 <;> first | omega | exact hno h9)⟩
theorem run_storeAt (hE : Ok E P) {w : World} {t n b off : Nat} {v : Value} {cur : Array Value} {e : TypeId} (hn : E.sz t = some n) (hs : v.cells.size = n) (hh : w.heap[b]? = some (.cells cur e (0, 0))) (hf : off + n ≤ cur.size) (h1 : ∀ x ∈ v.cells.toList, x.oneCell' = true) :
  (Instr.storeAt t (.pointer (some (at' b off))) v).run P w = .ok () (w.setRow b (cur.toList.take off ++ v.cells.toList ++ cur.toList.drop (off + n)).toArray) := by
 have := run_storeCells_at P b off e v.cells.toList 0 cur w hh (by simp; omega) h1
 simp only [Nat.add_zero, Array.length_toList, hs] at this
 simp [Instr.storeAt, Instr.sureAddr, storeVar, run_sizeOf hE hn, hs, at', this]
theorem laid_get (cur vs : List Value) (off : Nat) (hf : off + vs.length ≤ cur.length) (j : Nat) :
  (cur.take off ++ vs ++ cur.drop (off + vs.length)).getD j Go.undef = if off ≤ j ∧ j < off + vs.length then vs.getD (j - off) Go.undef else cur.getD j Go.undef := by
 have h1 : (cur.take off).length = off := by simp; omega
 have h2 : (cur.take off ++ vs).length = off + vs.length := by simp; omega
 simp only [List.getD_eq_getElem?_getD]
 congr 1
 split
 ·rename_i hk
  rw [List.append_assoc, List.getElem?_append_right (by omega), h1, List.getElem?_append_left (by omega)]
 ·rename_i hk
  by_cases h3 : j < off
  ·rw [List.append_assoc, List.getElem?_append_left (by omega), List.getElem?_take, if_pos h3]
  ·rw [List.getElem?_append_right (by omega), h2, List.getElem?_drop, show off + vs.length + (j - (off + vs.length)) = j by omega]
def Bet.putO (β : Bet) (o : Nat) (x : Option (Nat × (Nat × Nat))) : Bet := ⟨fun i => if i = o then x else β i, β.h⟩
abbrev Bet.put (β : Bet) (o : Nat) (x : Nat × (Nat × Nat)) : Bet := β.putO o (some x)
theorem Bet.putO_r (β : Bet) (o : Nat) (x : Option (Nat × (Nat × Nat))) (i : Nat) : (β.putO o x) i = if i = o then x else β i := rfl
theorem Bet.put_r (β : Bet) (o : Nat) (x : Nat × (Nat × Nat)) (i : Nat) : (β.put o x) i = if i = o then some x else β i := rfl
theorem put_some {β : Bet} {o o' : Nat} {x : Option (Nat × (Nat × Nat))} {b : Nat × (Nat × Nat)} (h : β o' = some b) (hn : decide (o = o') = false) : β.putO o x o' = some b := by
 have h1 : ¬ o = o' := of_decide_eq_false hn
 rw [Bet.putO_r, if_neg (fun e => h1 e.symm)]
 exact h
theorem VRep.off_flat {F : Frz} {w : World} {β : Bet} {o : Nat} {x : Option (Nat × (Nat × Nat))} {d : D RT den} {v : Value} (h : VRep E F w β d v) (hn : d.nx o = false) : VRep E F w (β.putO o x) d v := by
 cases h with
 | ref o' off b m hb => exact .ref o' off b m (put_some hb hn)
 | eref o' sz j off b m hb hj => exact .eref o' sz j off b m (put_some hb hn) hj
 | os o' len cap b m hb hc hl => exact .os o' len cap b m (put_some hb hn) hc hl
 | os0 o' a' k3 => exact .os0 o' a' k3
 | osn o' i j len cap b m hb hc hl => exact .osn o' i j len cap b m hb hc hl
 | osn0 o' i j a' k3 => exact .osn0 o' i j a' k3
 | osp o' sz off len cap b m hb hc hl => exact .osp o' sz off len cap b m (put_some hb hn) hc hl
 | osp0 o' sz off a' k3 => exact .osp0 o' sz off a' k3
 | lit τ cs b o u k0 k1 k2 => simp [D.nx] at hn
 | fn f cap vs h1 h2 =>
  cases cap with
  | nil => exact .fn f [] vs h1 (fun j c hc => by simp at hc)
  | cons x l => simp [D.nx] at hn
 | agg cs vs h1 h2 => simp [D.nx] at hn
 | tup cs vs h1 h2 => simp [D.nx] at hn
 | int k n => exact .int k n
 | bool b => exact .bool b
 | str b => exact .str b
 | undef => exact .undef
 | q v => exact .q _
 | nil => exact .nil
 | emp z τ a' k1 k2 k3 => exact .emp z τ a' k1 k2 k3
 | rptr cs b o u k1 k2 => exact .rptr cs b o u k1 k2
 | rs z τ n f a' cap b o u k1 k2 k3 k4 k5 k6 k7 k8 => exact .rs z τ n f a' cap b o u k1 k2 k3 k4 k5 k6 k7 k8
theorem VRep.off {F : Frz} {w : World} {β : Bet} {o : Nat} {x : Option (Nat × (Nat × Nat))} {d : D RT den} {v : Value} (h : VRep E F w β d v) (hn : d.nxs o = false) : VRep E F w (β.putO o x) d v := by
 cases h with
 | agg cs vs h1 h2 =>
  simp only [D.nxs, List.any_eq_false] at hn
  exact .agg cs vs h1 (fun j c hc => (h2 j c hc).off_flat ((Bool.not_eq_true _).mp (hn c (getD_mem hc))))
 | tup cs vs h1 h2 =>
  cases cs with
  | nil => exact .tup [] vs h1 (fun j c hc => by simp at hc)
  | cons x l => simp [D.nxs] at hn
 | fn f cap vs h1 h2 =>
  simp only [D.nxs, List.any_eq_false] at hn
  refine .fn f cap vs h1 (fun j c hc => ?_)
  have hq := (Bool.not_eq_true _).mp (hn c (getD_mem hc))
  have hv := h2 j c hc
  generalize vs.getD j Go.undef = v at hv ⊢
  cases hv with
  | agg cs ws k1 k2 =>
   simp only [D.nxc, List.any_eq_false] at hq
   exact .agg cs ws k1 (fun i c' hc' => (k2 i c' hc').off_flat ((Bool.not_eq_true _).mp (hq c' (getD_mem hc'))))
  | int k n => exact .int k n
  | bool b => exact .bool b
  | str b => exact .str b
  | undef => exact .undef
  | q v => exact .q _
  | nil => exact .nil
  | ref o' off b m hb => exact (VRep.ref o' off b m hb).off_flat hq
  | eref o' sz i off b m hb hi => exact (VRep.eref o' sz i off b m hb hi).off_flat hq
  | os o' len cap b m hb hcc hl => exact (VRep.os o' len cap b m hb hcc hl).off_flat hq
  | os0 o' a' k3 => exact .os0 o' a' k3
  | osn o' i j len cap b m hb hcc hl => exact .osn o' i j len cap b m hb hcc hl
  | osn0 o' i j a' k3 => exact .osn0 o' i j a' k3
  | osp o' sz off len cap b m hb hcc hl => exact (VRep.osp o' sz off len cap b m hb hcc hl).off_flat hq
  | osp0 o' sz off a' k3 => exact .osp0 o' sz off a' k3
  | lit τ cs b o u k0 k1 k2 => simp [D.nxc, D.nx] at hq
  | emp z τ a' k1 k2 k3 => exact .emp z τ a' k1 k2 k3
  | rptr cs b o u k1 k2 => exact .rptr cs b o u k1 k2
  | rs z τ n f a' cap b o u k1 k2 k3 k4 k5 k6 k7 k8 => exact .rs z τ n f a' cap b o u k1 k2 k3 k4 k5 k6 k7 k8
  | fn f' cap' vs' k1 k2 => exact (VRep.fn f' cap' vs' k1 k2).off_flat hq
  | tup cs ws k1 k2 => exact (VRep.tup cs ws k1 k2).off_flat hq
 | ref o' off b m hb => exact .ref o' off b m (put_some hb hn)
 | eref o' sz j off b m hb hj => exact .eref o' sz j off b m (put_some hb hn) hj
 | os o' len cap b m hb hc hl => exact .os o' len cap b m (put_some hb hn) hc hl
 | os0 o' a' k3 => exact .os0 o' a' k3
 | osn o' i j len cap b m hb hc hl => exact .osn o' i j len cap b m hb hc hl
 | osn0 o' i j a' k3 => exact .osn0 o' i j a' k3
 | osp o' sz off len cap b m hb hc hl => exact .osp o' sz off len cap b m (put_some hb hn) hc hl
 | osp0 o' sz off a' k3 => exact .osp0 o' sz off a' k3
 | lit τ cs b o' u k0 k1 k2 =>
  simp only [D.nxs, List.any_eq_false] at hn
  exact .lit τ cs b o' u k0 (fun j c hc => (k1 j c hc).off_flat ((Bool.not_eq_true _).mp (hn c (getD_mem hc)))) k2
 | int k n => exact .int k n
 | bool b => exact .bool b
 | str b => exact .str b
 | undef => exact .undef
 | q v => exact .q _
 | nil => exact .nil
 | emp z τ a' k1 k2 k3 => exact .emp z τ a' k1 k2 k3
 | rptr cs b o u k1 k2 => exact .rptr cs b o u k1 k2
 | rs z τ n f a' cap b o u k1 k2 k3 k4 k5 k6 k7 k8 => exact .rs z τ n f a' cap b o u k1 k2 k3 k4 k5 k6 k7 k8
theorem D.isO_pure {d : D RT den} (h : d.pure = true) : d.isO = false := by cases d <;> first | rfl | (simp [D.pure] at h; done)
theorem kill_get {o : Nat} {os : List (Ob RT den)} {i : Nat} {ob : Ob RT den} (h : (os.map (Ob.kill o))[i]? = some ob) : ∃ ob0, os[i]? = some ob0 ∧ ob = ob0.kill o := by
 rw [List.getElem?_map] at h
 cases hq : os[i]? with
 | none => rw [hq] at h; cases h
 | some x => rw [hq] at h; exact ⟨x, rfl, (Option.some.inj h).symm⟩
theorem kill_pure {o : Nat} {os : List (Ob RT den)} {i : Nat} {cs : List (D RT den)} (h : os[i]? = some (.box false cs)) (hp : cs.all D.pure = true) : (os.map (Ob.kill o))[i]? = some (.box false cs) := by
 rw [List.getElem?_map, h]
 rw [List.all_eq_true] at hp
 have : cs.map (D.kill1 o) = cs := by
  conv => rhs; rw [← List.map_id cs]
  refine List.map_congr_left (fun d hd => ?_)
  unfold D.kill1
  rw [D.isO_pure (hp d hd)]; rfl
 simp only [Option.map_some, Ob.kill, this]
theorem kill_cell {F : Frz} {w : World} {β : Bet} {o : Nat} {x : Option (Nat × (Nat × Nat))} {d : D RT den} {v : Value} (h : VRep E F w β d v) (hn : d.nx o = false ∨ d.isO = true) : VRep E F w (β.putO o x) (d.kill1 o) v := by
 unfold D.kill1
 cases hq : d.nx o with
 | false => simp only [Bool.and_false, cond_false]; exact h.off_flat hq
 | true =>
  rcases hn with hn | hn
  ·rw [hq] at hn; cases hn
  ·simp only [hn, Bool.and_self, cond_true]; exact .q v
theorem Rel.swapObj {F0 : Was} {w0 : World} {F : Frz} {β : Bet} {s : St RT den} {a : Act} {w w' : World} (h : Rel E F0 w0 F β s a w) {o : Nat} (ho : o < s.objs.length) (x : Nat × (Nat × Nat)) (ob : Ob RT den)
  (hk : Keeps F w w') (hbel : Keep F0.lent w0.heap.size w0 w') (hsz : w.heap.size ≤ w'.heap.size) (hoth : ∀ i b m, i ≠ o → β i = some (b, m) → w'.heap[b]? = w.heap[b]?)
  (hhid : ∀ i p b m, β.h i p = some (b, m) → w'.heap[b]? = w.heap[b]?) (hdg : ∀ ob', s.objs[o]? = some ob' → ob'.dg = false) (hdg' : ob.dg = false) (hnl : ∀ ob', s.objs[o]? = some ob' → ob'.isLent = false) (hbox : ∀ (i : Nat) (lb : Bool) (cs : List (D RT den)), s.objs[i]? = some (Ob.box lb cs) → ∀ d, d ∈ cs → D.nx o d = false ∨ d.isO = true) (hob : ob.kill o = ob) (hr : ORep E F w' (β.put o x) x.1 x.2 ob)
  (hb1 : w0.heap.size ≤ x.1 ∨ F0.lent x.1) (hb2 : x.1 < w'.heap.size) (hb3 : ∀ off, ¬ F x.1 off) (hb4 : ∀ i m, i ≠ o → β i ≠ some (x.1, m)) (hb5 : β.off x.1) :
  Rel E F0 w0 F (β.put o x) (({ s with objs := (s.objs.set o ob).map (Ob.kill o) } : St RT den).kill (some o)) a w' := by
 refine ⟨h.defers, by simp [St.kill, h.size], fun i d hd => ?_, fun i ob' hi b m hb => ?_, fun i b m hb => ?_, fun i j b m1 m2 hi hj => ?_, hbel, fun b off hf => Nat.lt_of_lt_of_le (h.frz b off hf) hsz, h.frz1, h.frz2, fun o' hy => ?_, h.placeH, ?_, h.tab⟩
 rotate_right
 ·refine h.hid.step (fun _ h => h) (fun _ _ h => h) (fun _ _ h => .inl h) hk hsz rfl (fun i b m hb => ?_) (fun i ob' hi hd => ?_) (fun i l τ n p f hi b m hb => ?_) hhid (by simp [St.kill]) (fun i y l τ n p f _ hy => ?_)
  ·rw [Bet.put_r] at hb
   split at hb
   ·cases hb; exact .inr hb5
   ·exact .inl ⟨m, hb⟩
  ·have hne : i ≠ o := fun e => by subst e; rw [hdg ob' hi] at hd; cases hd
   show ((s.objs.set o ob).map (Ob.kill o))[i]? = _
   rw [List.getElem?_map, List.getElem?_set_ne (Ne.symm hne), hi]
   cases ob' <;> first | rfl | cases hd
  ·have hi : ((s.objs.set o ob).map (Ob.kill o))[i]? = _ := hi
   obtain ⟨ob0, hi, e0⟩ := kill_get hi
   by_cases hne : i = o
   ·subst hne
    simp [ho] at hi
    subst hi
    rw [hob] at e0
    subst e0; cases hdg'
   ·rw [List.getElem?_set_ne (Ne.symm hne)] at hi
    rw [Bet.put_r, if_neg hne] at hb
    have e1 : ob0 = .deep l τ n p f := by cases ob0 <;> first | (simpa [Ob.kill] using e0.symm) | cases e0
    subst e1
    exact ⟨hi, hb, hoth i b m hne hb⟩
  ·rw [Bet.put_r]
   split
   ·exact ⟨_, rfl⟩
   ·exact ⟨y, hy⟩
 rotate_right
 ·obtain ⟨h1, ob', h2, h3⟩ := h.place o' hy
  have hne : o' ≠ o := fun e => by
   subst e
   rw [hnl ob' h2] at h3; cases h3
  refine ⟨by rw [Bet.put_r, if_neg hne]; exact h1, ob'.kill o, ?_, by cases ob' <;> exact h3⟩
  show ((s.objs.set o ob).map (Ob.kill o))[o']? = _
  rw [List.getElem?_map, List.getElem?_set_ne (Ne.symm hne), h2]
  rfl
 ·simp only [St.kill, List.getElem?_map] at hd
  cases hq : s.slots[i]? with
  | none => simp [hq] at hd
  | some d' =>
   simp only [hq, Option.map_some, Option.some.injEq] at hd
   cases hn : d'.nxs o with
   | true => rw [hn] at hd; simp only [cond_true] at hd; subst hd; exact .q _
   | false =>
    rw [hn] at hd; simp only [cond_false] at hd; subst hd
    exact ((h.slots i d' hq).off hn).mono (fun _ _ h => h) hk (Bet.le_refl _)
 ·simp only [St.kill] at hi
  have hx := kill_get hi
  clear hi
  obtain ⟨ob0, hi, rfl⟩ := hx
  by_cases hio : i = o
  ·subst hio
   rw [Bet.put_r] at hb
   rw [if_pos rfl] at hb; cases hb
   simp [ho] at hi
   subst hi; rw [hob]; exact hr
  ·rw [List.getElem?_set_ne (Ne.symm hio)] at hi
   rw [Bet.put_r] at hb
   rw [if_neg hio] at hb
   have hold := h.objs i ob0 hi b m hb
   have hblk := hoth i b m hio hb
   cases ob0 with
   | box lb cs =>
    obtain ⟨cur, e, hh, hs, hr'⟩ := hold
    refine ⟨cur, e, by rw [hblk]; exact hh, by simpa using hs, fun j c hc => ?_⟩
    rw [List.getElem?_map] at hc
    cases hq : cs[j]? with
    | none => rw [hq] at hc; cases hc
    | some d =>
     rw [hq] at hc
     have hc := Option.some.inj hc; subst hc
     exact (kill_cell (hr' j d hq) (hbox i lb cs hi d (List.mem_of_getElem? hq))).mono (fun _ _ h => h) hk (Bet.le_refl _)
   | row l τ n f =>
    obtain ⟨hm, hm1, cur, e, hh, hs, hr'⟩ := hold
    exact ⟨hm, hm1, cur, e, by rw [hblk]; exact hh, hs, fun i j c hi hc => (hr' i j c hi hc).mono (fun _ _ h => h) hk (Bet.le_refl _)⟩
   | deep => trivial
   | gone => trivial
 ·simp only [St.kill, List.length_map, List.length_set]
  rw [Bet.put_r] at hb
  split at hb
  ·rename_i e; subst e; cases hb
   exact ⟨hb1, hb2, hb3, ho⟩
  ·obtain ⟨h1, h2, h3, h4⟩ := h.names i b m hb
   exact ⟨h1, Nat.lt_of_lt_of_le h2 hsz, h3, h4⟩
 ·rw [Bet.put_r] at hi hj
  split at hi <;> split at hj
  ·rename_i e1 e2; rw [e1, e2]
  ·rename_i e1 e2; cases hi; exact absurd hj (hb4 _ _ e2)
  ·rename_i e1 e2; cases hj; exact absurd hi (hb4 _ _ e1)
  ·exact h.inj i j b m1 m2 hi hj
theorem clearS_spec {o : Nat} {os : List (Ob RT den)} (h : clearS o os = true) {i : Nat} {l : Bool} {cs : List (D RT den)} (hi : os[i]? = some (.box l cs)) {d : D RT den} (hd : d ∈ cs) : d.nx o = false := by
 unfold clearS at h
 rw [List.all_eq_true] at h
 have := h _ (List.mem_of_getElem? hi)
 simp only [List.all_eq_true, Bool.not_eq_true'] at this
 exact this d hd
theorem Rel.given {F0 : Was} {w0 : World} {F F' : Frz} {β : Bet} {s : St RT den} {a : Act} {w w' : World} (h : Rel E F0 w0 F β s a w) {o : Nat} {τ : RT} {n : Nat} {f : Nat → den τ} (hob : s.objs[o]? = some (.row false τ n f)) (hcl : clearS o s.objs = true)
  (y : Option (Nat × (Nat × Nat))) (τ' : RT) (n' : Nat) (f' : Nat → den τ') (hkp : Keep (fun b => ∃ m, β o = some (b, m)) w.heap.size w w') (hF1 : ∀ b off, F b off → F' b off)
  (hF2 : ∀ b off, F' b off → F b off ∨ w.heap.size ≤ b ∨ ∃ m, β o = some (b, m)) (hF3 : ∀ b off, F' b off → b < w'.heap.size)
  (hr : ∀ b m, y = some (b, m) → ORep E F' w' (β.putO o y) b m (.row false τ' n' f') ∧ b < w'.heap.size ∧ (∀ off, ¬ F' b off) ∧ (w.heap.size ≤ b ∨ ∃ m', β o = some (b, m'))) :
  Rel E F0 w0 F' (β.putO o y) (({ s with objs := s.objs.set o (.row false τ' n' f') } : St RT den).kill (some o)) a w' := by
 have ho : o < s.objs.length := (List.getElem?_eq_some_iff.1 hob).1
 have own : ∀ b m i m', i ≠ o → β i = some (b, m) → β o ≠ some (b, m') := fun b m i m' hi h1 h2 => hi (h.inj i o b m m' h1 h2)
 have hoth : ∀ i b m, i ≠ o → β i = some (b, m) → w'.heap[b]? = w.heap[b]? := fun i b m hi hb => hkp.block b (h.names i b m hb).2.1 (fun ⟨m', hm⟩ => own b m i m' hi hb hm)
 have hhid : ∀ i p b m, β.h i p = some (b, m) → w'.heap[b]? = w.heap[b]? := fun i p b m hb => hkp.block b (h.hid.names i p b m hb).1 (fun ⟨m', hm⟩ => by
  have := h.hid.real i p b m o m' hb hm
  rw [hob] at this; cases this)
 have hk : Keeps F w w' := fun b off u hf hc => by
  have hbl : w'.heap[b]? = w.heap[b]? := hkp.block b (h.frz b off hf) (fun ⟨m', hm⟩ => (h.names o b m' hm).2.2.1 off hf)
  unfold World.cell? at hc ⊢
  simp only [at'] at hc ⊢
  rw [hbl]; exact hc
 have hlow : ∀ b m, β o = some (b, m) → w0.heap.size ≤ b ∨ F0.giv b := fun b m hb => by
  rcases (h.names o b m hb).1 with n1 | n1
  ·exact .inl n1
  ·rcases F0.ok b n1 with ⟨o', m', hol, hb'⟩ | ⟨o', q, m', hol, hb'⟩ | hg
   ·obtain ⟨p1, ob, p2, p3⟩ := h.place o' hol
    have := h.inj o' o b m' m (p1.trans hb') hb
    subst this
    rw [hob] at p2; cases p2; cases p3
   ·have := h.hid.real o' q b m' o m (by rw [h.placeH o' hol]; exact hb') hb
    rw [hob] at this; cases this
   ·exact .inr hg
 have hoff : ∀ b m, β o = some (b, m) → β.off b := fun b m hb => h.hid.off_real hb (by rw [hob]; simp)
 have hnew : ∀ b m, y = some (b, m) → β.off b := fun b m hy => by
  rcases (hr b m hy).2.2.2 with h9 | ⟨m', h9⟩
  ·exact h.hid.off_new h9
  ·exact hoff b m' h9
 refine ⟨h.defers, by simp [St.kill, h.size], fun i d hd => ?_, fun i ob' hi b m hb => ?_, fun i b m hb => ?_, fun i j b m1 m2 hi hj => ?_, ?_, hF3, fun b off hf => hF1 b off (h.frz1 b off hf), fun b off hf => ?_, fun o' hy => ?_, h.placeH, ?_, h.tab⟩
 ·simp only [St.kill, List.getElem?_map] at hd
  cases hq : s.slots[i]? with
  | none => simp [hq] at hd
  | some d' =>
   simp only [hq, Option.map_some, Option.some.injEq] at hd
   cases hn : d'.nxs o with
   | true => rw [hn] at hd; simp only [cond_true] at hd; subst hd; exact .q _
   | false =>
    rw [hn] at hd; simp only [cond_false] at hd; subst hd
    exact ((h.slots i d' hq).off hn).mono hF1 hk (Bet.le_refl _)
 ·have hi : (s.objs.set o (.row false τ' n' f'))[i]? = some ob' := hi
  by_cases hio : i = o
  ·subst hio
   rw [Bet.putO_r, if_pos rfl] at hb
   simp [ho] at hi
   subst hi
   exact (hr b m hb).1
  ·rw [List.getElem?_set_ne (Ne.symm hio)] at hi
   rw [Bet.putO_r, if_neg hio] at hb
   have hold := h.objs i ob' hi b m hb
   have hblk := hoth i b m hio hb
   cases ob' with
   | box lb cs =>
    obtain ⟨cur, e, hh, hs, hr'⟩ := hold
    exact ⟨cur, e, by rw [hblk]; exact hh, hs, fun j c hc => ((hr' j c hc).off_flat (clearS_spec hcl hi (List.mem_of_getElem? hc))).mono hF1 hk (Bet.le_refl _)⟩
   | row l τ n f =>
    obtain ⟨hm, hm1, cur, e, hh, hs, hr'⟩ := hold
    exact ⟨hm, hm1, cur, e, by rw [hblk]; exact hh, hs, fun i j c hi hc => (hr' i j c hi hc).mono hF1 hk (Bet.le_refl _)⟩
   | deep => trivial
   | gone => trivial
 ·simp only [St.kill, List.length_map, List.length_set]
  rw [Bet.putO_r] at hb
  split at hb
  ·rename_i e; subst e
   obtain ⟨_, h2, h3, h4⟩ := hr b m hb
   refine ⟨?_, h2, h3, ho⟩
   rcases h4 with h9 | ⟨m', h9⟩
   ·exact .inl (Nat.le_trans h.below.size h9)
   ·exact (h.names i b m' h9).1
  ·rename_i hio
   obtain ⟨h1, h2, h3, h4⟩ := h.names i b m hb
   refine ⟨h1, Nat.lt_of_lt_of_le h2 hkp.size, fun off hf => ?_, h4⟩
   rcases hF2 b off hf with h9 | h9 | ⟨m', h9⟩
   ·exact h3 off h9
   ·omega
   ·exact own b m i m' hio hb h9
 ·rw [Bet.putO_r] at hi hj
  split at hi <;> split at hj
  ·rename_i e1 e2; rw [e1, e2]
  ·rename_i e1 e2
   rcases (hr b m1 hi).2.2.2 with h9 | ⟨m', h9⟩
   ·have := (h.names j b m2 hj).2.1; omega
   ·exact absurd h9 (own b m2 j m' e2 hj)
  ·rename_i e1 e2
   rcases (hr b m2 hj).2.2.2 with h9 | ⟨m', h9⟩
   ·have := (h.names i b m1 hi).2.1; omega
   ·exact absurd h9 (own b m1 i m' e1 hi)
  ·exact h.inj i j b m1 m2 hi hj
 ·refine h.below.trans ⟨hkp.os, hkp.tape, hkp.output, hkp.size, fun b hb hno => hkp.block b (Nat.lt_of_lt_of_le hb h.below.size) (fun ⟨m', hm⟩ => ?_)⟩
  rcases (h.names o b m' hm).1 with h9 | h9
  ·omega
  ·exact hno h9
 ·rcases hF2 b off hf with h9 | h9 | ⟨m', h9⟩
  ·exact h.frz2 b off h9
  ·exact .inr (.inl (Nat.le_trans h.below.size h9))
  ·exact .inr (hlow b m' h9)
 ·obtain ⟨h1, ob', h2, h3⟩ := h.place o' hy
  have hne : o' ≠ o := fun e => by
   subst e
   rw [hob] at h2; cases h2; cases h3
  exact ⟨by rw [Bet.putO_r, if_neg hne]; exact h1, ob', by show (s.objs.set o _)[o']? = _; rw [List.getElem?_set_ne (Ne.symm hne)]; exact h2, h3⟩
 ·refine h.hid.step (fun _ h => h) hF1 (fun b off hf => ?_) hk hkp.size rfl (fun i b m hb => ?_) (fun i ob' hi hd => ?_) (fun i l τ n p f hi b m hb => ?_) hhid (by simp [St.kill]) (fun i y' l τ n p f hi hy => ?_)
  ·rcases hF2 b off hf with h9 | h9 | ⟨m', h9⟩
   ·exact .inl h9
   ·exact .inr (h.hid.off_new h9)
   ·exact .inr (hoff b m' h9)
  ·rw [Bet.putO_r] at hb
   split at hb
   ·exact .inr (hnew b m hb)
   ·exact .inl ⟨m, hb⟩
  ·have hne : i ≠ o := fun e => by subst e; rw [hob] at hi; cases hi; cases hd
   show (s.objs.set o _)[i]? = _
   rw [List.getElem?_set_ne (Ne.symm hne), hi]
  ·have hi : (s.objs.set o (.row false τ' n' f'))[i]? = _ := hi
   by_cases hne : i = o
   ·subst hne
    simp [ho] at hi
   ·rw [List.getElem?_set_ne (Ne.symm hne)] at hi
    rw [Bet.putO_r, if_neg hne] at hb
    exact ⟨hi, hb, hoth i b m hne hb⟩
  ·have hne : i ≠ o := fun e => by subst e; rw [hob] at hi; cases hi
   rw [Bet.putO_r, if_neg hne]
   exact ⟨y', hy⟩
def cellList (n sz : Nat) (u : Nat → Nat → Value) : List Value := (List.range (n * sz)).map fun k => u (k / sz) (k % sz)
theorem cellList_len (n sz : Nat) (u : Nat → Nat → Value) : (cellList n sz u).length = n * sz := by simp [cellList]
theorem cellList_get {n sz : Nat} {u : Nat → Nat → Value} {i j : Nat} (hi : i < n) (hj : j < sz) : (cellList n sz u).getD (i * sz + j) Go.undef = u i j := by
 have h1 : (i + 1) * sz ≤ n * sz := Nat.mul_le_mul_right _ hi
 rw [Nat.add_mul, Nat.one_mul] at h1
 have h2 : i * sz + j < n * sz := by omega
 have e1 : (i * sz + j) / sz = i := by rw [Nat.add_comm, Nat.add_mul_div_right _ _ (by omega), Nat.div_eq_of_lt hj, Nat.zero_add]
 have e2 : (i * sz + j) % sz = j := by rw [Nat.add_comm, Nat.add_mul_mod_self_right, Nat.mod_eq_of_lt hj]
 simp [cellList, List.getD_eq_getElem?_getD, h2, e1, e2]
theorem cellList_mem {n sz : Nat} {u : Nat → Nat → Value} (hz : 0 < sz) {v : Value} (h : v ∈ cellList n sz u) : ∃ i j, i < n ∧ j < sz ∧ v = u i j := by
 simp only [cellList, List.mem_map, List.mem_range] at h
 obtain ⟨k, hk, rfl⟩ := h
 exact ⟨k / sz, k % sz, (Nat.div_lt_iff_lt_mul hz).2 hk, Nat.mod_lt _ hz, rfl⟩
theorem cellList_at {n sz : Nat} {u : Nat → Nat → Value} (hz : 0 < sz) {w : World} {b o : Nat} (h : ∀ i j, i < n → j < sz → w.cell? (at' b (o + i * sz + j)) = some (u i j)) :
  ∀ k v, (cellList n sz u)[k]? = some v → w.cell? ((at' b o).add k) = some v := by
 intro k v hv
 simp only [cellList, List.getElem?_map, Option.map_eq_some_iff] at hv
 obtain ⟨k', hk', rfl⟩ := hv
 rw [List.getElem?_eq_some_iff] at hk'
 obtain ⟨hlt, e⟩ := hk'
 simp only [List.length_range] at hlt
 simp only [List.getElem_range] at e
 subst e
 have := h (k / sz) (k % sz) ((Nat.div_lt_iff_lt_mul hz).2 hlt) (Nat.mod_lt _ hz)
 rw [show o + k / sz * sz + k % sz = o + k by have := Nat.div_add_mod' k sz; omega] at this
 rw [show (at' b o).add k = at' b (o + k) from Addr.add_lit b o k]
 exact this
theorem run_append_room' {P : Program} (w : World) (t ty e : TypeId) (i : TypeInfo) (ht : P.underlying t = some (.slice e)) (hi : P.info? e = some i)
  (g sLen sCap : Nat) (cur : Array Value) (e' : TypeId) (hg : w.heap[g]? = some (.cells cur e' (0, 0)))
  (a : Addr) (m c : Nat) (news : List Value) (hl : news.length = m * i.size) (hnews : ∀ j u, news[j]? = some u → w.cell? (a.add j) = some u) (h1 : ∀ u ∈ news, u.oneCell' = true)
  (hroom : sLen + m ≤ sCap) (hfit : sLen * i.size + news.length ≤ cur.size) :
  (Builtin.append_ #[t, t] ty #[.slice (some ⟨g, 0, none⟩) sLen sCap, .slice (some a) m c]).run P w =
   .ok (.slice (some ⟨g, 0, none⟩) (sLen + m) sCap) (w.setRow g (cur.toList.take (sLen * i.size) ++ news ++ cur.toList.drop (sLen * i.size + news.length)).toArray) := by
 have hf := run_firstCells_some (P := P) w i.size m a m c news hl hnews
 have hst := run_storeCells_at P g (sLen * i.size) e' news 0 cur w hg (by simpa using hfit) h1
 simp only [Nat.add_zero] at hst
 simp [Builtin.append_, run_underlying ht, sizeOf, typeInfo, hi, Builtin.lenOf, hroom, hf, Addr.add_lit, hst]
theorem D.flat_of_pure {d : D RT den} (h : d.pure = true) : d.flat = true := by
 cases d <;> first | rfl | (simp [D.pure] at h; done)
theorem run_append_zero {P : Program} (w : World) (t ty e : TypeId) (i : TypeInfo) (ht : P.underlying t = some (.slice e)) (hi : P.info? e = some i) (base : Option Addr) (len cap : Nat) (p : Option Addr) (c : Nat) (h : len ≤ cap) :
  (Builtin.append_ #[t, t] ty #[.slice base len cap, .slice p 0 c]).run P w = .ok (.slice base len cap) w := by
 have hf : (Builtin.firstCells i.size 0 (.slice p 0 c)).run P w = .ok #[] w := by
  cases p with
  | none => exact run_firstCells_none w i.size 0 0 c
  | some q => simpa using run_firstCells_some (P := P) w i.size 0 q 0 c [] (by simp) (by simp)
 cases base with
 | none => simp [Builtin.append_, run_underlying ht, sizeOf, typeInfo, hi, Builtin.lenOf, h, hf]
 | some q => simp [Builtin.append_, run_underlying ht, sizeOf, typeInfo, hi, Builtin.lenOf, h, hf, storeCells]
theorem Rel.setNone {F0 : Was} {w0 : World} {F : Frz} {β : Bet} {s : St RT den} {a : Act} {w : World} (h : Rel E F0 w0 F β s a w) {o : Nat} (ho : β o = none) (hnl : ∀ ob', s.objs[o]? = some ob' → ob'.isLent = false) (hdg : ∀ ob', s.objs[o]? = some ob' → ob'.dg = false) (ob : Ob RT den) :
  Rel E F0 w0 F β (({ s with objs := (s.objs.set o ob).map (Ob.kill o) } : St RT den).kill (some o)) a w := by
 refine ⟨h.defers, by simp [St.kill, h.size], fun i d hd => ?_, fun i ob' hi b m hb => ?_, fun i b m hb => ?_, h.inj, h.below, h.frz, h.frz1, h.frz2, fun o' hy => ?_, h.placeH, ?_, h.tab⟩
 rotate_right
 ·refine h.hid.step (fun _ h => h) (fun _ _ h => h) (fun _ _ h => .inl h) (Keeps.refl _ _) (Nat.le_refl _) rfl (fun i b m hb => .inl ⟨m, hb⟩) (fun i ob' hi hd => ?_) (fun i l τ n p f hi b m hb => ?_) (fun _ _ _ _ _ => rfl) (by simp [St.kill])
  ·have hne : i ≠ o := fun e => by subst e; rw [hdg ob' hi] at hd; cases hd
   show ((s.objs.set o ob).map (Ob.kill o))[i]? = _
   rw [List.getElem?_map, List.getElem?_set_ne (Ne.symm hne), hi]
   cases ob' <;> first | rfl | cases hd
  ·have hi : ((s.objs.set o ob).map (Ob.kill o))[i]? = _ := hi
   have hne : i ≠ o := fun e => by subst e; rw [ho] at hb; cases hb
   obtain ⟨ob0, hi, e0⟩ := kill_get hi
   rw [List.getElem?_set_ne (Ne.symm hne)] at hi
   have e1 : ob0 = .deep l τ n p f := by cases ob0 <;> first | (simpa [Ob.kill] using e0.symm) | cases e0
   subst e1
   exact ⟨hi, hb, rfl⟩
 rotate_right
 ·obtain ⟨h1, ob', h2, h3⟩ := h.place o' hy
  have hne : o' ≠ o := fun e => by
   subst e
   rw [hnl ob' h2] at h3; cases h3
  refine ⟨h1, ob'.kill o, ?_, by cases ob' <;> exact h3⟩
  show ((s.objs.set o ob).map (Ob.kill o))[o']? = _
  rw [List.getElem?_map, List.getElem?_set_ne (Ne.symm hne), h2]
  rfl
 ·simp only [St.kill, List.getElem?_map] at hd
  cases hq : s.slots[i]? with
  | none => simp [hq] at hd
  | some d' =>
   simp only [hq, Option.map_some, Option.some.injEq] at hd
   cases hn : d'.nxs o with
   | true => rw [hn] at hd; simp only [cond_true] at hd; subst hd; exact .q _
   | false => rw [hn] at hd; simp only [cond_false] at hd; subst hd; exact h.slots i d' hq
 ·simp only [St.kill] at hi
  have hne : i ≠ o := fun e => by subst e; rw [ho] at hb; cases hb
  have hx := kill_get hi
  clear hi
  obtain ⟨ob0, hi, rfl⟩ := hx
  rw [List.getElem?_set_ne (Ne.symm hne)] at hi
  have hold := h.objs i ob0 hi b m hb
  cases ob0 with
  | box lb cs =>
   obtain ⟨cur, e, hh, hs, hr'⟩ := hold
   refine ⟨cur, e, hh, by simpa using hs, fun j c hc => ?_⟩
   rw [List.getElem?_map] at hc
   cases hq : cs[j]? with
   | none => rw [hq] at hc; cases hc
   | some d =>
    rw [hq] at hc
    have hc := Option.some.inj hc; subst hc
    unfold D.kill1
    cases d.isO && d.nx o with
    | true => exact .q _
    | false => exact hr' j d hq
  | row l τ n f => exact hold
  | deep => trivial
  | gone => trivial
 ·obtain ⟨h1, h2, h3, h4⟩ := h.names i b m hb
  exact ⟨h1, h2, h3, by simp only [St.kill, List.length_map, List.length_set]; exact h4⟩
inductive Grow (E : Env RT den) (F : Frz) (w : World) : (z : Option Bool) → (τ : RT) → (n : Nat) → (Nat → den τ) → Value → Prop
 | rs (z : Option Bool) (τ : RT) (n : Nat) (f : Nat → den τ) (a : Option Addr) (cap b o : Nat) (u : Nat → Nat → Value) : (n ≠ 0 → a = some (at' b o)) →
   (z = some true → a = none) → (z = some false → a ≠ none) → (n ≠ 0 → ∀ p, a = some p → p.spot = none) → n ≤ cap → (a = none → cap = 0) →
   (∀ i j c, i < n → (E.cells τ (f i))[j]? = some c → VRep E F w noBet c (u i j)) →
   (∀ i j, i < n → j < E.size τ → True ∧ w.cell? (at' b (o + i * E.size τ + j)) = some (u i j)) → Grow E F w z τ n f (.slice a n cap)
theorem VRep.src {F : Frz} {w : World} {β : Bet} {z : Option Bool} {τ : RT} {n : Nat} {f : Nat → den τ} {v : Value} (h : VRep E F w β (.rs z τ n f) v) : Grow E F w z τ n f v := by
 cases h with
 | rs _ _ _ _ a cap b o u k1 k2 k3 k4 k5 k6 k7 k8 => exact .rs z τ n f a cap b o u k1 k2 k3 k4 k5 k6 k7 fun i j hi hj => ⟨trivial, (k8 i j hi hj).2⟩
theorem read_src (hE : Ok E P) {F0 : Was} {w0 : World} {F : Frz} {β : Bet} {s : St RT den} {a : Act} {w : World} (h : Rel E F0 w0 F β s a w) {d : D RT den} {v : Value} (hv : VRep E F w β d v) {z : Option Bool} {τ : RT} {n : Nat} {f : Nat → den τ} (hd : norm E (rdRow s.objs d) = .rs z τ n f) : Grow E F w z τ n f v := by
 cases hv with
 | os o len cap b m hb hcap hlm =>
  simp only [rdRow] at hd
  cases hob : obj s.objs o <;> rw [hob] at hd <;> try (simp only [norm, reduceCtorEq] at hd; done)
  rename_i l τ1 n1 f1
  simp only [norm, D.rs.injEq] at hd
  obtain ⟨rfl, rfl, rfl, hf⟩ := hd
  have hf := eq_of_heq hf
  subst hf
  obtain ⟨hmn, ⟨hm1, hm2⟩, cur, e', hh, hs, hr⟩ := h.objs o _ (obj_some hob (by simp)) b m hb
  refine .rs none τ1 len f1 (some (at' b 0)) cap b 0 (fun i j => cur.getD (i * E.size τ1 + j) Go.undef) (fun _ => rfl) (by simp) (by simp) (fun _ p hp => by cases hp; rfl) hcap.1 (by simp) (fun i j c hi hc => hr i j c (by omega) hc) (fun i j hi hj => ⟨trivial, ?_⟩)
  have hlt : i * E.size τ1 + j < cur.size := by
   rw [hs]
   have h1 : (i + 1) * E.size τ1 ≤ m.2 * E.size τ1 := Nat.mul_le_mul_right _ (by omega)
   rw [Nat.add_mul, Nat.one_mul] at h1
   omega
  rw [Nat.zero_add]
  exact cell_own hh hlt
 | os0 o a0 hq =>
  simp only [rdRow] at hd
  cases hob : obj s.objs o <;> rw [hob] at hd <;> try (simp only [norm, reduceCtorEq] at hd; done)
  rename_i l τ1 n1 f1
  simp only [norm, D.rs.injEq] at hd
  obtain ⟨rfl, rfl, rfl, hf⟩ := hd
  have hf := eq_of_heq hf
  subst hf
  exact .rs none τ1 0 f1 a0 0 0 0 (fun _ _ => Go.undef) (by simp) (by simp) (by simp) (by simp) (Nat.le_refl _) (fun _ => rfl) (fun i j c hi => absurd hi (Nat.not_lt_zero _)) (fun i j hi => absurd hi (Nat.not_lt_zero _))
 | rs z1 τ1 n1 f1 a1 cap b o u k1 k2 k3 k4 k5 k6 k7 k8 =>
  have := norm_rep (E := E) (VRep.rs (β := β) z1 τ1 n1 f1 a1 cap b o u k1 k2 k3 k4 k5 k6 k7 k8)
  rw [show norm E (D.rs z1 τ1 n1 f1) = .rs z τ n f from hd] at this
  exact this.src
 | emp z1 τ1 a1 k1 k2 k3 =>
  have := norm_rep (E := E) (VRep.emp (F := F) (w := w) (β := β) z1 τ1 a1 k1 k2 k3)
  rw [show norm E (D.emp z1 τ1) = .rs z τ n f from hd] at this
  exact this.src
 | _ => simp [rdRow, norm] at hd
theorem read_lit {os : List (Ob RT den)} {d : D RT den} {τ : RT} {cs : List (D RT den)} (hd : norm E (rdRow os d) = .lit τ cs) : d = .lit τ cs := by
 cases d with
 | os o len =>
  simp only [rdRow] at hd
  cases hob : obj os o <;> rw [hob] at hd <;> simp [norm] at hd
 | lit => exact hd
 | _ => simp [rdRow, norm] at hd
theorem read_app (hE : Ok E P) {F0 : Was} {w0 : World} {F : Frz} {β : Bet} {s : St RT den} {a : Act} {w : World} (h : Rel E F0 w0 F β s a w) {d : D RT den} {v : Value} (hv : VRep E F w β d v) {z : Option Bool} {τ : RT} {n : Nat} {f : Nat → den τ} (hd : rdApp E s.objs d = .rs z τ n f) : Grow E F w z τ n f v := by
 by_cases hp : ∃ o z off len, d = .osp o z off len
 ·obtain ⟨o, z', off, len, rfl⟩ := hp
  simp only [rdApp] at hd
  cases hob : obj s.objs o <;> rw [hob] at hd <;> try (simp only [reduceCtorEq] at hd; done)
  rename_i l τ1 n1 f1
  dsimp only at hd
  split at hd
  ·rename_i hz
   simp only [D.rs.injEq] at hd
   obtain ⟨rfl, rfl, rfl, hf⟩ := hd
   have hf := eq_of_heq hf
   subst hf
   cases hv with
   | osp _ _ _ _ cap b m hb hcap hlm =>
    obtain ⟨hmn, ⟨hm1, hm2⟩, cur, e', hh, hs, hr⟩ := h.objs o _ (obj_some hob (by simp)) b m hb
    refine .rs none τ1 len _ (some (at' b (off * z'))) cap b (off * z') (fun i j => cur.getD ((off + i) * E.size τ1 + j) Go.undef) (fun _ => rfl) (by simp) (by simp) (fun _ p hp => by cases hp; rfl) hcap (by simp) (fun i j c hi hc => hr (off + i) j c (by omega) hc) (fun i j hi hj => ⟨trivial, ?_⟩)
    have hlt : (off + i) * E.size τ1 + j < cur.size := by
     rw [hs]
     have h1 : (off + i + 1) * E.size τ1 ≤ m.2 * E.size τ1 := Nat.mul_le_mul_right _ (by omega)
     rw [Nat.add_mul, Nat.one_mul] at h1
     omega
    rw [← hz, show off * E.size τ1 + i * E.size τ1 + j = (off + i) * E.size τ1 + j by rw [Nat.add_mul]]
    exact cell_own hh hlt
   | osp0 _ _ _ a0 hq =>
    exact .rs none τ1 0 _ a0 0 0 0 (fun _ _ => Go.undef) (by simp) (by simp) (by simp) (by simp) (Nat.le_refl _) (fun _ => rfl) (fun i j c hi => absurd hi (Nat.not_lt_zero _)) (fun i j hi => absurd hi (Nat.not_lt_zero _))
  ·simp at hd
 ·refine read_src hE h hv (d := d) ?_
  cases d <;> first | exact hd | (exfalso; exact hp ⟨_, _, _, _, rfl⟩)
theorem read_litA {os : List (Ob RT den)} {d : D RT den} {τ : RT} {cs : List (D RT den)} (hd : rdApp E os d = .lit τ cs) : d = .lit τ cs := by
 by_cases hp : ∃ o z off len, d = .osp o z off len
 ·obtain ⟨o, z', off, len, rfl⟩ := hp
  simp only [rdApp] at hd
  cases hob : obj os o <;> rw [hob] at hd <;> try (simp only [reduceCtorEq] at hd; done)
  dsimp only at hd
  split at hd <;> cases hd
 ·refine read_lit (E := E) (os := os) ?_
  cases d <;> first | exact hd | (exfalso; exact hp ⟨_, _, _, _, rfl⟩)
theorem append_wp (hE : Ok E P) {F0 : Was} {w0 : World} {F : Frz} {β : Bet} {s : St RT den} {a : Act} {w : World} (h : Rel E F0 w0 F β s a w) {dst : Option Tmp} {ty : TypeId} {pos : String} {after : Array Edge} {guard : Option (Nat × Bool)}
  {args : Array Operand} {argTypes : Array TypeId} {xo yo : Operand} {t e by' z o len n m : Nat} {τ : RT} {f g : Nat → den τ} {zc : List (D RT den)}
  (hvic : victim E s (Op.call ⟨.builtin .append, args, argTypes⟩) = some o) (hxs : args.toList = [xo, yo]) (hts : argTypes.toList = [t, t]) (he : E.elem t = some e) (hby : E.bytes e = some by') (hzc : E.zero e = some zc) (hz : E.sz e = some z)
  (hx : VRep E F w β (.os o len) (a.eval xo)) {z' : Option Bool} (hy : Grow E F w z' τ m g (a.eval yo)) (hob : obj s.objs o = .row false τ n f)
  (hboxes : clear o s.objs = true) (hzs : z = E.size τ) (hz0 : 0 < z) (hmax : len + m ≤ 9223372036854775807) (hbytes : (len + m) * by' ≤ 140737488355328)
  {K : Act → World → Prop} {Q : Exit → Act → World → Prop}
  (next : ∀ F' β' v w', Rel E F0 w0 F' β' (({ s with objs := (s.objs.set o (.row false τ (len + m) fun i => if i < len then f i else g (i - len))).map (Ob.kill o) } : St RT den).kill (victim E s (Op.call ⟨.builtin .append, args, argTypes⟩))) a w' →
   VRep E F' w' β' (.os o (len + m)) v → (∀ i, i < s.objs.length → β i = none → (∃ cs, s.objs[i]? = some (.box false cs) ∧ cs.all D.pure = true) → β' i = none ∧ ((s.objs.set o (.row false τ (len + m) fun i => if i < len then f i else g (i - len))).map (Ob.kill o))[i]? = s.objs[i]?) → K (a.put dst v) w') :
  Oper.wp P ⟨dst, .call ⟨.builtin .append, args, argTypes⟩, ty, pos, after, guard⟩ a w K Q := by
 rw [hvic] at next
 obtain rfl : args = #[xo, yo] := Array.ext' hxs
 obtain rfl : argTypes = #[t, t] := Array.ext' hts
 subst hzs
 have hoo := obj_some hob (by simp)
 have hlt : o < s.objs.length := (List.getElem?_eq_some_iff.1 hoo).1
 obtain ⟨i, zv, h1, h2, h3, h4, h5, h6⟩ := zero_rep hE hzc
 have hisz : i.size = E.size τ := by have := hE.sz e _ hz; simpa [h1] using this
 have hib : i.bytes = by' := by have := hE.bytes e by' hby; simpa [h1] using this
 have ht := hE.elem t e he
 have hzv : zv.cells.size = E.size τ := by rw [h3, ← h4, hisz]
 generalize hvx : a.eval xo = vx at hx
 generalize hvy : a.eval yo = vy at hy
 cases hy with
 | rs p cap b o' u k1 k2 k3 k4 k5 k6 k7 k8 =>
 by_cases hm0 : m = 0
 ·subst hm0
  have old : ∀ (i : Nat), i < s.objs.length → (∃ cs, s.objs[i]? = some (Ob.box false cs) ∧ cs.all D.pure = true) → i ≠ o := fun i _ ⟨cs, hcs, _⟩ e => by subst e; rw [hoo] at hcs; cases hcs
  have swap : ∀ (b0 : Nat) (m0 : Nat × Nat), β o = some (b0, m0) → len ≤ m0.1 → len ≤ m0.2 → Rel E F0 w0 F (β.put o (b0, (len + 0, m0.2))) (({ s with objs := (s.objs.set o (.row false τ (len + 0) fun i => if i < len then f i else g (i - len))).map (Ob.kill o) } : St RT den).kill (some o)) a w := by
   intro b0 m0 hb hl1 hl2
   obtain ⟨hmn, ⟨hm1, hm2⟩, cur, e', hh, hs, hr⟩ := h.objs o _ hoo b0 m0 hb
   obtain ⟨n1, n2, n3, n4⟩ := h.names o b0 m0 hb
   refine h.swapObj hlt (b0, (len + 0, m0.2)) _ (Keeps.refl _ _) h.below (Nat.le_refl _) (fun _ _ _ _ _ => rfl) (fun _ _ _ _ _ => rfl) (fun ob' ho' => by rw [hoo] at ho'; cases ho'; rfl) rfl (fun ob' ho' => by rw [hoo] at ho'; cases ho'; rfl) (fun i lb cs hi d hd => ?_) rfl ⟨rfl, ⟨by show len + 0 ≤ m0.2; omega, hm2⟩, cur, e', hh, hs, fun i j c hi hc => ?_⟩ n1 n2 n3 (fun i m hi hβ => hi (h.inj i o b0 _ _ hβ hb)) (h.hid.off_real hb (by rw [hoo]; simp))
   ·unfold clear at hboxes
    rw [List.all_eq_true] at hboxes
    have := hboxes _ (List.mem_of_getElem? hi)
    dsimp only at this
    rw [List.all_eq_true] at this
    have := this d hd
    simp only [Bool.or_eq_true, Bool.not_eq_true'] at this
    exact this
   ·have hil : i < len := by omega
    replace hc : (E.cells τ (if i < len then f i else g (i - len)))[j]? = some c := hc
    rw [if_pos hil] at hc
    exact hr i j c (by omega) hc
  have hrun : ∀ (base : Option Addr) (cp : Nat), len ≤ cp → vx = .slice base len cp → (Builtin.append_ #[t, t] ty #[vx, .slice p 0 cap]).run P w = .ok vx w := by
   intro base cp hle e1
   rw [e1]
   exact run_append_zero (P := P) w t ty e i ht h1 base len cp p cap hle
  cases hx with
  | os _ _ cap0 b0 m0 hb hcap hlm =>
   have hr := hrun _ cap0 hcap.1 rfl
   refine wp_value' (v := .slice (some (at' b0 0)) len cap0) (w' := w) (by simp [execOp, resolve, invoke, builtin, hvx, hvy, hr]) (next F _ _ _ (swap b0 m0 hb hlm (by omega)) (.os o (len + 0) cap0 b0 (len + 0, m0.2) (by simp [Bet.put_r]) ⟨by omega, hcap.2⟩ (Nat.le_refl _)) (fun i hi hn hbx => ?_))
   have hne := old i hi hbx
   exact (by obtain ⟨cs, hcs, hpu⟩ := hbx; exact ⟨by rw [Bet.put_r, if_neg hne]; exact hn, by rw [hcs]; exact kill_pure (by rw [List.getElem?_set_ne (Ne.symm hne)]; exact hcs) hpu⟩)
  | os0 _ q hq =>
   have hr := hrun q 0 (Nat.le_refl _) rfl
   cases hb : β o with
   | none =>
    refine wp_value' (v := .slice q 0 0) (w' := w) (by simp [execOp, resolve, invoke, builtin, hvx, hvy, hr]) (next F β _ _ (h.setNone hb (fun ob' ho' => by rw [hoo] at ho'; cases ho'; rfl) (fun ob' ho' => by rw [hoo] at ho'; cases ho'; rfl) _) (.os0 o q hq) (fun i hi hn hbx => ?_))
    have hne := old i hi hbx
    exact (by obtain ⟨cs, hcs, hpu⟩ := hbx; exact ⟨hn, by rw [hcs]; exact kill_pure (by rw [List.getElem?_set_ne (Ne.symm hne)]; exact hcs) hpu⟩)
   | some x =>
    obtain ⟨b0, m0⟩ := x
    refine wp_value' (v := .slice q 0 0) (w' := w) (by simp [execOp, resolve, invoke, builtin, hvx, hvy, hr]) (next F _ _ _ (swap b0 m0 hb (Nat.zero_le _) (Nat.zero_le _)) (.os0 o q hq) (fun i hi hn hbx => ?_))
    have hne := old i hi hbx
    exact (by obtain ⟨cs, hcs, hpu⟩ := hbx; exact ⟨by rw [Bet.put_r, if_neg hne]; exact hn, by rw [hcs]; exact kill_pure (by rw [List.getElem?_set_ne (Ne.symm hne)]; exact hcs) hpu⟩)
 have hm0 : 0 < m := by omega
 have hp := k1 (by omega)
 subst hp
 have hl : (cellList m (E.size τ) u).length = m * i.size := by rw [cellList_len, hisz]
 have hnews := cellList_at (n := m) (sz := E.size τ) (u := u) hz0 (w := w) (b := b) (o := o') (fun i j hi hj => (k8 i j hi hj).2)
 have one : ∀ v ∈ cellList m (E.size τ) u, v.oneCell' = true := by
  intro v hv
  obtain ⟨i, j, hi, hj, rfl⟩ := cellList_mem hz0 hv
  obtain ⟨c, hc⟩ : ∃ c, (E.cells τ (g i))[j]? = some c := ⟨_, List.getElem?_eq_getElem (by rw [hE.size]; exact hj)⟩
  have hpu := hE.pure τ (g i)
  rw [List.all_eq_true] at hpu
  exact (k7 i j c hi hc).oneCell (D.flat_of_pure (hpu c (List.mem_of_getElem? hc)))
 have fin : ∀ (w' : World) (bb cap' : Nat) (cur' : Array Value) (e' : TypeId) (olds : List Value),
   (Builtin.append_ #[t, t] ty #[vx, .slice (some (at' b o')) m cap]).run P w = .ok (.slice (some (at' bb 0)) (len + m) cap') w' → Keeps F w w' → Keep F0.lent w0.heap.size w0 w' → w.heap.size ≤ w'.heap.size →
   (∀ i b m, i ≠ o → β i = some (b, m) → w'.heap[b]? = w.heap[b]?) → w'.heap[bb]? = some (.cells cur' e' (0, 0)) → cur'.size = cap' * E.size τ → len + m ≤ cap' → cap' ≤ 9223372036854775807 →
   (∀ k, k < (len + m) * E.size τ → cur'.getD k Go.undef = (olds ++ cellList m (E.size τ) u).getD k Go.undef) → olds.length = len * E.size τ →
   (∀ i j c, i < len → (E.cells τ (f i))[j]? = some c → VRep E F w noBet c (olds.getD (i * E.size τ + j) Go.undef)) →
   (w0.heap.size ≤ bb ∨ F0.lent bb) → bb < w'.heap.size → (∀ off, ¬ F bb off) → (∀ i m, i ≠ o → β i ≠ some (bb, m)) → (∀ i p b m, β.h i p = some (b, m) → w'.heap[b]? = w.heap[b]?) → β.off bb → Oper.wp P ⟨dst, .call ⟨.builtin .append, #[xo, yo], #[t, t]⟩, ty, pos, after, guard⟩ a w K Q := by
  intro w' bb cap' cur' e' olds hrun hk hbel hsz hoth hheap hcs hlc hcm hcont holds hor hb1 hb2 hb3 hb4 hhid hb5
  have hrow : ORep E F w' (β.put o (bb, (len + m, cap'))) bb (len + m, cap') (.row false τ (len + m) fun i => if i < len then f i else g (i - len)) := by
   refine ⟨rfl, ⟨hlc, hcm⟩, cur', e', hheap, hcs, fun i j c hi hc => ?_⟩
   replace hc : (E.cells τ (if i < len then f i else g (i - len)))[j]? = some c := hc
   have hj : j < E.size τ := by rw [← hE.size τ (if i < len then f i else g (i - len))]; exact (List.getElem?_eq_some_iff.1 hc).1
   have hkk : i * E.size τ + j < (len + m) * E.size τ := by
    have : (i + 1) * E.size τ ≤ (len + m) * E.size τ := Nat.mul_le_mul_right _ hi
    rw [Nat.add_mul, Nat.one_mul] at this
    omega
   rw [hcont _ hkk]
   by_cases hil : i < len
   ·rw [if_pos hil] at hc
    have h7 : i * E.size τ + j < olds.length := by
     rw [holds]
     have : (i + 1) * E.size τ ≤ len * E.size τ := Nat.mul_le_mul_right _ hil
     rw [Nat.add_mul, Nat.one_mul] at this
     omega
    have h8 := hor i j c hil hc
    rw [List.getD_eq_getElem?_getD] at h8 ⊢
    rw [List.getElem?_append_left h7]
    exact h8.mono (fun _ _ h => h) hk (Bet.le_refl _)
   ·rw [if_neg hil] at hc
    have h7 : ¬ i * E.size τ + j < olds.length := by
     rw [holds]
     have : len * E.size τ ≤ i * E.size τ := Nat.mul_le_mul_right _ (by omega)
     omega
    have h9 : i * E.size τ + j - olds.length = (i - len) * E.size τ + j := by
     rw [holds, Nat.sub_mul]
     have : len * E.size τ ≤ i * E.size τ := Nat.mul_le_mul_right _ (by omega)
     omega
    rw [List.getD_eq_getElem?_getD, List.getElem?_append_right (by omega), h9, ← List.getD_eq_getElem?_getD, cellList_get (by omega) hj]
    exact (k7 (i - len) j c (by omega) hc).mono (fun _ _ h => h) hk (Bet.le_refl _)
  refine wp_value' (v := .slice (some (at' bb 0)) (len + m) cap') (w' := w') (by simp [execOp, resolve, invoke, builtin, hvx, hvy, hrun])
   (next F (β.put o (bb, (len + m, cap'))) _ _ (h.swapObj hlt (bb, (len + m, cap')) _ hk hbel hsz hoth hhid (fun ob' ho' => by rw [hoo] at ho'; cases ho'; rfl) rfl (fun ob' ho' => by rw [hoo] at ho'; cases ho'; rfl) (fun i lb cs hi d hd => ?_) rfl hrow hb1 hb2 hb3 hb4 hb5) (.os o (len + m) cap' bb (len + m, cap') (by simp [Bet.put_r]) ⟨hlc, rfl⟩ (Nat.le_refl _)) (fun i hi hn hbx => ?_))
  ·unfold clear at hboxes
   rw [List.all_eq_true] at hboxes
   have := hboxes _ (List.mem_of_getElem? hi)
   dsimp only at this
   rw [List.all_eq_true] at this
   have := this d hd
   simp only [Bool.or_eq_true, Bool.not_eq_true'] at this
   exact this
  ·obtain ⟨cs, hcs, hpu⟩ := hbx
   have hne : i ≠ o := by
    intro e
    subst e
    rw [hoo] at hcs
    cases hcs
   exact ⟨by rw [Bet.put_r, if_neg hne]; exact hn, by rw [hcs]; exact kill_pure (by rw [List.getElem?_set_ne (Ne.symm hne)]; exact hcs) hpu⟩
 have grown : ∀ (ob : Obj), Below w.heap.size w (w.drew.alloc ob) := fun ob => ⟨rfl, rfl, rfl, by simp, fun k hk => heap_alloc_old w.drew _ k hk⟩
 have keeps : ∀ (ob : Obj), Keeps F w (w.drew.alloc ob) := fun ob b' off u' hf hc => by rw [(grown ob).cell (p := at' b' off) (h.frz b' off hf)]; exact hc
 have room0 : ∀ (olds : List Value), olds.length = len * E.size τ → ∀ old, old < len + m →
   (∀ i j c, i < len → (E.cells τ (f i))[j]? = some c → VRep E F w noBet c (olds.getD (i * E.size τ + j) Go.undef)) →
   (Builtin.append_ #[t, t] ty #[vx, .slice (some (at' b o')) m cap]).run P w = .ok (.slice (some ⟨w.heap.size, 0, none⟩) (len + m) (grownCap w (len + m) old e)) (w.drew.alloc (.cells (olds.toArray ++ (cellList m (E.size τ) u).toArray ++ Builtin.zeroCells zv.cells (grownCap w (len + m) old e - (len + m))) e)) →
   Oper.wp P ⟨dst, .call ⟨.builtin .append, #[xo, yo], #[t, t]⟩, ty, pos, after, guard⟩ a w K Q := by
  intro olds hol old hold hor hrun
  have hge := grownCap_ge w (len + m) old e
  have hle := grownCap_le_maxLen w (len + m) old e (by simp only [maxLen]; omega)
  simp only [maxLen] at hle
  refine fin _ w.heap.size _ _ e olds hrun (keeps _) (h.below.trans (.of ((grown _).mono h.below.size))) (grown _).size (fun i b m hi hb => (grown _).block b (h.names i b m hb).2.1) (heap_alloc_new w.drew _) ?_ hge (by omega) (fun k hk => ?_) hol hor (.inl h.below.size) (by simp) (fun off hf => by have := h.frz _ off hf; omega) (fun i m hi hb => by have := (h.names i _ m hb).2.1; omega) (fun i p b m hb => (grown _).block b (h.hid.names i p b m hb).1) (h.hid.off_new (Nat.le_refl _))
  ·simp only [Array.size_append, List.size_toArray, size_zeroCells, hzv, hol, cellList_len, ← Nat.add_mul]
   congr 1
   omega
  ·have hlk : k < (olds ++ cellList m (E.size τ) u).length := by rw [List.length_append, hol, cellList_len, ← Nat.add_mul]; exact hk
   rw [← getD_toList]
   simp only [Array.toList_append]
   rw [List.getD_eq_getElem?_getD, List.getD_eq_getElem?_getD, List.getElem?_append_left hlk]
 cases hx with
 | os _ _ cap0 b0 m0 hb hcap hlm =>
  obtain ⟨hmn, ⟨hm1, hm2⟩, cur, e', hh, hs, hr⟩ := h.objs o _ hoo b0 m0 hb
  subst hmn
  have hlen0 : len * E.size τ ≤ cur.size := by rw [hs]; exact Nat.mul_le_mul_right _ (by omega)
  have hor : ∀ i j c, i < len → (E.cells τ (f i))[j]? = some c → VRep E F w noBet c ((cur.toList.take (len * E.size τ)).getD (i * E.size τ + j) Go.undef) := by
   intro i j c hi hc
   have hj : j < E.size τ := by rw [← hE.size τ (f i)]; exact (List.getElem?_eq_some_iff.1 hc).1
   have hk : i * E.size τ + j < len * E.size τ := by
    have : (i + 1) * E.size τ ≤ len * E.size τ := Nat.mul_le_mul_right _ hi
    rw [Nat.add_mul, Nat.one_mul] at this
    omega
   rw [List.getD_eq_getElem?_getD, List.getElem?_take, if_pos hk, ← List.getD_eq_getElem?_getD, getD_toList]
   exact hr i j c (by omega) hc
  have holen : (cur.toList.take (len * E.size τ)).length = len * E.size τ := by simp; omega
  have hoff : β.off b0 := h.hid.off_real hb (by rw [hoo]; simp)
  by_cases hroom : len + m ≤ cap0
  ·have hfit0 : (len + m) * E.size τ ≤ cur.size := by rw [hs, ← hcap.2]; exact Nat.mul_le_mul_right _ hroom
   have hfit : len * i.size + (cellList m (E.size τ) u).length ≤ cur.size := by rw [cellList_len, hisz, ← Nat.add_mul]; exact hfit0
   have hrun := run_append_room' (P := P) w t ty e i ht h1 b0 len cap0 cur e' hh (at' b o') m cap _ hl hnews one hroom hfit
   rw [hisz] at hrun
   refine fin _ b0 cap0 _ e' (cur.toList.take (len * E.size τ)) hrun (keeps_setRow h hb _) ?_ (by rw [setRow_size]; exact Nat.le_refl _) (fun i b m hi hβ => setRow_other w b0 b _ (fun e => by subst e; exact hi (h.inj i o _ _ _ hβ hb))) (setRow_heap w b0 cur _ e' _ hh) ?_ hroom (by omega) (fun k hk => ?_) holen hor (h.names o b0 m0 hb).1 (by rw [setRow_size]; exact (h.names o b0 m0 hb).2.1) (h.names o b0 m0 hb).2.2.1 (fun i m hi hβ => hi (h.inj i o b0 _ _ hβ hb)) (fun i p b m hβ => setRow_other w b0 b _ (fun e => by subst e; exact hoff i p m hβ)) hoff
   ·exact h.below.trans ⟨rfl, rfl, rfl, by rw [setRow_size]; exact Nat.le_refl _, fun k hk' hno => setRow_other w b0 k _ (fun e => by subst e; rcases (h.names o k m0 hb).1 with h9 | h9 <;> first | omega | exact hno h9)⟩
   ·rw [cellList_len, hisz] at hfit
    simp only [List.size_toArray, List.length_append, List.length_take, List.length_drop, Array.length_toList, cellList_len]
    rw [← hcap.2] at hs
    omega
   ·have hlk : k < (cur.toList.take (len * E.size τ) ++ cellList m (E.size τ) u).length := by rw [List.length_append, holen, cellList_len, ← Nat.add_mul]; exact hk
    rw [← getD_toList]
    rw [List.getD_eq_getElem?_getD, List.getD_eq_getElem?_getD, List.getElem?_append_left hlk]
  ·have holds : ∀ j v, (cur.toList.take (len * E.size τ))[j]? = some v → w.cell? ((at' b0 0).add j) = some v := by
    intro j v hv
    rw [List.getElem?_take] at hv
    split at hv
    ·rw [show (at' b0 0).add j = at' b0 j from by rw [show (at' b0 0).add j = at' b0 (0 + j) from Addr.add_lit b0 0 j, Nat.zero_add]]
     have hjl := (List.getElem?_eq_some_iff.1 hv).1
     rw [cell_own hh (by simpa using hjl), ← getD_toList, List.getD_eq_getElem?_getD, hv]; rfl
    ·cases hv
   have hrun := run_append_grow (P := P) w t ty e i zv ht h1 h2 (at' b0 0) len cap0 _ (by rw [holen, hisz]) holds (at' b o') m cap _ hl hnews (by omega) (by omega) (growslice_fits (by omega) (by rw [hib]; exact hbytes))
   exact room0 _ holen cap0 (by omega) hor hrun
 | os0 _ q hq =>
  simp only [Nat.zero_add] at *
  cases q with
  | none =>
   have hrun := run_append_nil (P := P) w t ty e i zv ht h1 h2 (at' b o') m cap _ hl hnews hm0 (by omega) (by rw [hib]; omega)
   exact room0 [] (by simp) 0 (by omega) (fun i j c hi => absurd hi (Nat.not_lt_zero _)) (by simpa using hrun)
  | some q =>
   have hrun := run_append_grow (P := P) w t ty e i zv ht h1 h2 q 0 0 [] (by simp) (by simp) (at' b o') m cap _ hl hnews (by omega) (by omega) (growslice_fits (by omega) (by rw [hib]; simpa using hbytes))
   exact room0 [] (by simp) 0 (by omega) (fun i j c hi => absurd hi (Nat.not_lt_zero _)) (by simpa using hrun)
theorem append_emp_wp (hE : Ok E P) {F0 : Was} {w0 : World} {F : Frz} {β : Bet} {s : St RT den} {a : Act} {w : World} (h : Rel E F0 w0 F β s a w) {dst : Option Tmp} {ty : TypeId} {pos : String} {after : Array Edge} {guard : Option (Nat × Bool)}
  {args : Array Operand} {argTypes : Array TypeId} {xo yo : Operand} {t e by' z m : Nat} {τ τ' : RT} {g : Nat → den τ} {zc : List (D RT den)} {z0 : Bool} {z' : Option Bool}
  (hvic : victim E s (Op.call ⟨.builtin .append, args, argTypes⟩) = none) (hxs : args.toList = [xo, yo]) (hts : argTypes.toList = [t, t]) (he : E.elem t = some e) (hby : E.bytes e = some by') (hzc : E.zero e = some zc) (hz : E.sz e = some z)
  (hx : VRep E F w β (.emp z0 τ') (a.eval xo)) (hy : Grow E F w z' τ m g (a.eval yo)) (hzs : z = E.size τ) (hz0 : 0 < z) (hmax : m ≤ 9223372036854775807) (hbytes : m * by' ≤ 140737488355328)
  {K : Act → World → Prop} {Q : Exit → Act → World → Prop}
  (next : ∀ F' β' v w', Rel E F0 w0 F' β' (({ s with objs := s.objs ++ [.row false τ m g] } : St RT den).kill (victim E s (Op.call ⟨.builtin .append, args, argTypes⟩))) a w' →
   VRep E F' w' β' (.os s.objs.length m) v → (∀ i, i < s.objs.length → β i = none → (∃ cs, s.objs[i]? = some (.box false cs) ∧ cs.all D.pure = true) → β' i = none ∧ (s.objs ++ [Ob.row false τ m g])[i]? = s.objs[i]?) → K (a.put dst v) w') :
  Oper.wp P ⟨dst, .call ⟨.builtin .append, args, argTypes⟩, ty, pos, after, guard⟩ a w K Q := by
 rw [hvic] at next
 obtain rfl : args = #[xo, yo] := Array.ext' hxs
 obtain rfl : argTypes = #[t, t] := Array.ext' hts
 subst hzs
 obtain ⟨i, zv, h1, h2, h3, h4, h5, h6⟩ := zero_rep hE hzc
 have hisz : i.size = E.size τ := by have := hE.sz e _ hz; simpa [h1] using this
 have hib : i.bytes = by' := by have := hE.bytes e by' hby; simpa [h1] using this
 have ht := hE.elem t e he
 have hzv : zv.cells.size = E.size τ := by rw [h3, ← h4, hisz]
 generalize hvx : a.eval xo = vx at hx
 generalize hvy : a.eval yo = vy at hy
 cases hx with
 | emp _ _ q q1 q2 q3 =>
 cases hy with
 | rs p cap b o' u k1 k2 k3 k4 k5 k6 k7 k8 =>
 have hpush := h.push [.row false τ m g]
 by_cases hm0 : m = 0
 ·subst hm0
  have hr := run_append_zero (P := P) w t ty e i ht h1 q 0 0 p cap (Nat.le_refl _)
  exact wp_value' (v := .slice q 0 0) (w' := w) (by simp [execOp, resolve, invoke, builtin, hvx, hvy, hr]) (next F β _ _ hpush (.os0 _ q q3) (fun i hi hn _ => ⟨hn, List.getElem?_append_left hi⟩))
 have hm0 : 0 < m := by omega
 have hp := k1 (by omega)
 subst hp
 have hl : (cellList m (E.size τ) u).length = m * i.size := by rw [cellList_len, hisz]
 have hnews := cellList_at (n := m) (sz := E.size τ) (u := u) hz0 (w := w) (b := b) (o := o') (fun i j hi hj => (k8 i j hi hj).2)
 have grown : ∀ (ob : Obj), Below w.heap.size w (w.drew.alloc ob) := fun ob => ⟨rfl, rfl, rfl, by simp, fun k hk => heap_alloc_old w.drew _ k hk⟩
 have fin : ∀ old, old < m → (Builtin.append_ #[t, t] ty #[.slice q 0 0, .slice (some (at' b o')) m cap]).run P w = .ok (.slice (some ⟨w.heap.size, 0, none⟩) m (grownCap w m old e)) (w.drew.alloc (.cells ((cellList m (E.size τ) u).toArray ++ Builtin.zeroCells zv.cells (grownCap w m old e - m)) e)) →
   Oper.wp P ⟨dst, .call ⟨.builtin .append, #[xo, yo], #[t, t]⟩, ty, pos, after, guard⟩ a w K Q := by
  intro old hold hrun
  have hge := grownCap_ge w m old e
  have hle := grownCap_le_maxLen w m old e (by simp only [maxLen]; omega)
  simp only [maxLen] at hle
  have hlast : β s.objs.length = none := h.last
  have hg := hpush.grow (grown (.cells ((cellList m (E.size τ) u).toArray ++ Builtin.zeroCells zv.cells (grownCap w m old e - m)) e)) (F' := F) (fun _ _ h => h) (fun _ _ h => .inl h) (fun b o hf => by have := h.frz b o hf; simp; omega)
  have hkeep : Keeps F w (w.drew.alloc (.cells ((cellList m (E.size τ) u).toArray ++ Builtin.zeroCells zv.cells (grownCap w m old e - m)) e)) := fun b' off u' hf hc => by rw [(grown _).cell (p := at' b' off) (h.frz b' off hf)]; exact hc
  have hown := hg.own (o := s.objs.length) (b := w.heap.size) (m := (m, grownCap w m old e)) (ob := .row false τ m g) hlast (by simp) ⟨rfl, ⟨hge, by show grownCap w m old e ≤ _; omega⟩, _, e, heap_alloc_new w.drew _, by
    simp only [Array.size_append, List.size_toArray, size_zeroCells, hzv, cellList_len, ← Nat.add_mul]
    congr 1
    omega, fun i j c hi hc => by
    have hj : j < E.size τ := by rw [← hE.size τ (g i)]; exact (List.getElem?_eq_some_iff.1 hc).1
    have hk : i * E.size τ + j < m * E.size τ := by
     have : (i + 1) * E.size τ ≤ m * E.size τ := Nat.mul_le_mul_right _ hi
     rw [Nat.add_mul, Nat.one_mul] at this
     omega
    rw [← getD_toList]
    simp only [Array.toList_append]
    rw [List.getD_eq_getElem?_getD, List.getElem?_append_left (by rw [cellList_len]; exact hk), ← List.getD_eq_getElem?_getD, cellList_get hi hj]
    exact (k7 i j c hi hc).mono (fun _ _ h => h) hkeep (Bet.le_refl _)⟩ (.inl h.below.size) (by simp) (fun off hf => by have := h.frz _ off hf; omega) (fun i m' hi => by have := (h.names i _ m' hi).2.1; omega) (h.hid.off_new (Nat.le_refl _)) rfl (by simp) (fun l τ n p f e => by cases e)
  refine wp_value' (v := .slice (some (at' w.heap.size 0)) m (grownCap w m old e)) (w' := _) (by have hrun' : (Builtin.append_ #[t, t] ty #[.slice q 0 0, .slice (some (at' b o')) m cap]).run P w = .ok (.slice (some (at' w.heap.size 0)) m (grownCap w m old e)) _ := hrun; simp [execOp, resolve, invoke, builtin, hvx, hvy, hrun']) (next F _ _ _ hown (.os _ m (grownCap w m old e) _ (m, grownCap w m old e) (by simp [Bet.with_r]) ⟨hge, rfl⟩ (Nat.le_refl _)) (fun i hi hn _ => ⟨?_, List.getElem?_append_left hi⟩))
  rw [Bet.with_r, if_neg (by omega)]
  exact hn
 cases q with
 | none =>
  have hrun := run_append_nil (P := P) w t ty e i zv ht h1 h2 (at' b o') m cap _ hl hnews hm0 (by omega) (by rw [hib]; omega)
  exact fin 0 hm0 (by simpa using hrun)
 | some q =>
  have hrun := run_append_grow (P := P) w t ty e i zv ht h1 h2 q 0 0 [] (by simp) (by simp) (at' b o') m cap _ hl hnews (by omega) (by omega) (growslice_fits (by omega) (by rw [hib]; simpa using hbytes))
  exact fin 0 hm0 (by simpa using hrun)
end Go.Proofs.Ytcmfekgdlaffkaa.Vm

