
/- The value machine: rows of own rows: what they take in, and how they turn. Conditions: none. -/
import Derived.Test.YtcmfekgdlaffkaaVmI
namespace Go.Proofs.Ytcmfekgdlaffkaa.Vm
open Go Go.RowKit
set_option linter.unusedVariables false
set_option linter.unusedSimpArgs false
variable {RT : Type} {den : RT → Type} {E : Env RT den} {P : Program}
def Bet.takes (β : Bet) (o i off : Nat) (sr : Nat → Option (Nat × Nat)) (o' : Nat) (q : List Nat) : Option (Nat × (Nat × Nat)) :=
 if o' = o then (match q with
  | [] => none
  | i' :: r => if i' < i then β.h o (i' :: r) else if i' = i then (match r with
   | [] => none
   | j :: q' => if off ≤ j then (sr (j - off)).bind fun x => (match q' with
    | [] => (β x.1).map fun y => (y.1, (x.2, y.2.2))
    | a :: l => if a < x.2 then β.h x.1 (a :: l) else none) else none) else none)
 else β.h o' q
open Classical in
theorem storeDeep_rel (hE : Ok E P) {F0 : Was} {w0 : World} {F : Frz} {β : Bet} {s : St RT den} {a : Act} {w : World} (h : Rel E F0 w0 F β s a w) {o z k off b n : Nat} {m : Nat × Nat} (hb : β o = some (b, m)) (hkm : k < m.1) {l : Bool} {τ : RT} {nn p : Nat} {f : Nat → den τ} (hob : s.objs[o]? = some (.deep l τ nn p f))
  {new : List (D RT den)} {os' : List (Ob RT den)} {vs : Array Value} (hnl : new.length = n) (hvs : vs.size = n) (hnew : ∀ (j : Nat) c, new[j]? = some c → VRep E F w β c (vs.getD j Go.undef)) (hs : storeDeep E s.objs o z k off l τ nn p f new = some (true, os')) :
  ∃ cur e, w.heap[b]? = some (.cells cur e (0, 0)) ∧ k * z + off + n ≤ cur.size ∧ (∀ (i : Nat), s.objs[i]? = some (Ob.gone) → os'[i]? = some (Ob.gone)) ∧ (∀ (i : Nat) lb cs, s.objs[i]? = some (Ob.box lb cs) → os'[i]? = some (Ob.box lb cs)) ∧
   ∃ β', Rel E F0 w0 F β' ({ s with objs := os' } : St RT den) a (w.setRow b (cur.toList.take (k * z + off) ++ vs.toList ++ cur.toList.drop (k * z + off + n)).toArray) ∧ β'.r = β.r := by simp [storeDeep] at hs
theorem VRep.away_flat {F : Frz} {w : World} {β β' : Bet} {o : Nat} (hr : ∀ i x, i ≠ o → β i = some x → β' i = some x) (hh : ∀ i q x, i ≠ o → β.h i q = some x → β'.h i q = some x) {d : D RT den} {v : Value} (h : VRep E F w β d v) (hn : d.nx o = false) : VRep E F w β' d v := by
 have ne : ∀ i, decide (o = i) = false → i ≠ o := fun i hi e => by subst e; simp at hi
 cases h with
 | ref o' off b m hb => exact .ref o' off b m (hr _ _ (ne _ hn) hb)
 | eref o' sz j off b m hb hj => exact .eref o' sz j off b m (hr _ _ (ne _ hn) hb) hj
 | os o' len cap b m hb hc hl => exact .os o' len cap b m (hr _ _ (ne _ hn) hb) hc hl
 | os0 o' a' k3 => exact .os0 o' a' k3
 | osn o' i j len cap b m hb hc hl => exact .osn o' i j len cap b m (hh _ _ _ (ne _ hn) hb) hc hl
 | osn0 o' i j a' k3 => exact .osn0 o' i j a' k3
 | osp o' sz off len cap b m hb hc hl => exact .osp o' sz off len cap b m (hr _ _ (ne _ hn) hb) hc hl
 | osp0 o' sz off a' k3 => exact .osp0 o' sz off a' k3
 | lit τ cs b o u k0 k1 k2 => simp [D.nx] at hn
 | fn f cap vs h1 h2 =>
  cases cap with
  | nil => exact .fn f [] vs h1 (fun j c hc => by simp at hc)
  | cons x l => simp [D.nx] at hn
 | agg cs vs h1 h2 => simp [D.nx] at hn
 | tup cs vs h1 h2 => simp [D.nx] at hn
 | int k n => exact .int k n
 | bool b => exact .bool b
 | str b => exact .str b
 | undef => exact .undef
 | q v => exact .q _
 | nil => exact .nil
 | emp z τ a' k1 k2 k3 => exact .emp z τ a' k1 k2 k3
 | rptr cs b o u k1 k2 => exact .rptr cs b o u k1 k2
 | rs z τ n f a' cap b o u k1 k2 k3 k4 k5 k6 k7 k8 => exact .rs z τ n f a' cap b o u k1 k2 k3 k4 k5 k6 k7 k8
theorem VRep.away1 {F : Frz} {w : World} {β β' : Bet} {o : Nat} (hr : ∀ i x, i ≠ o → β i = some x → β' i = some x) (hh : ∀ i q x, i ≠ o → β.h i q = some x → β'.h i q = some x) {d : D RT den} {v : Value} (h : VRep E F w β d v) (hn : d.nxc o = false) : VRep E F w β' d v := by
 by_cases ha : ∃ cs, d = .agg cs
 ·obtain ⟨cs, rfl⟩ := ha
  cases h with
  | agg _ vs h1 h2 =>
   simp only [D.nxc, List.any_eq_false] at hn
   exact .agg cs vs h1 (fun j c hc => (h2 j c hc).away_flat hr hh ((Bool.not_eq_true _).mp (hn c (getD_mem hc))))
 ·refine h.away_flat hr hh ?_
  cases d <;> first | exact hn | (exact absurd ⟨_, rfl⟩ ha)
theorem VRep.away {F : Frz} {w : World} {β β' : Bet} {o : Nat} (hr : ∀ i x, i ≠ o → β i = some x → β' i = some x) (hh : ∀ i q x, i ≠ o → β.h i q = some x → β'.h i q = some x) {d : D RT den} {v : Value} (h : VRep E F w β d v) (hn : d.nxs o = false) : VRep E F w β' d v := by
 by_cases ha : (∃ cs, d = .agg cs) ∨ (∃ τ cs, d = .lit τ cs) ∨ (∃ ds, d = .tup ds) ∨ ∃ f cap, d = .fn f cap
 ·rcases ha with ⟨cs, rfl⟩ | ⟨τ, cs, rfl⟩ | ⟨ds, rfl⟩ | ⟨f, cap, rfl⟩
  ·cases h with
   | agg _ vs h1 h2 =>
    simp only [D.nxs, List.any_eq_false] at hn
    exact .agg cs vs h1 (fun j c hc => (h2 j c hc).away_flat hr hh ((Bool.not_eq_true _).mp (hn c (getD_mem hc))))
  ·cases h with
   | lit _ _ b o' u k0 k1 k2 =>
    simp only [D.nxs, List.any_eq_false] at hn
    exact .lit τ cs b o' u k0 (fun j c hc => (k1 j c hc).away_flat hr hh ((Bool.not_eq_true _).mp (hn c (getD_mem hc)))) k2
  ·cases h with
   | tup _ vs h1 h2 =>
    cases ds with
    | nil => exact .tup [] vs h1 (fun j c hc => by simp at hc)
    | cons x l => simp [D.nxs] at hn
  ·cases h with
   | fn _ _ vs h1 h2 =>
    simp only [D.nxs, List.any_eq_false] at hn
    exact .fn f cap vs h1 (fun j c hc => (h2 j c hc).away1 hr hh ((Bool.not_eq_true _).mp (hn c (getD_mem hc))))
 ·refine h.away_flat hr hh ?_
  cases d <;> first | exact hn | (exact absurd (.inl ⟨_, rfl⟩) ha) | (exact absurd (.inr (.inl ⟨_, _, rfl⟩)) ha) | (exact absurd (.inr (.inr (.inl ⟨_, rfl⟩))) ha) | (exact absurd (.inr (.inr (.inr ⟨_, _, rfl⟩))) ha)
theorem appendD_wp (hE : Ok E P) {F0 : Was} {w0 : World} {F : Frz} {β : Bet} {s : St RT den} {a : Act} {w : World} (h : Rel E F0 w0 F β s a w) {dst : Option Tmp} {ty : TypeId} {pos : String} {after : Array Edge} {guard : Option (Nat × Bool)}
  {args : Array Operand} {argTypes : Array TypeId} {xo yo : Operand} {t e by' z o len n p : Nat} {τ : RT} {f : Nat → den τ} {zc cs told : List (D RT den)} {os1 : List (Ob RT den)} {y : den τ}
  (hvic : victim E s (Op.call ⟨.builtin .append, args, argTypes⟩) = some o) (hxs : args.toList = [xo, yo]) (hts : argTypes.toList = [t, t]) (he : E.elem t = some e) (hby : E.bytes e = some by') (hzc : E.zero e = some zc) (hz : E.sz e = some z)
  (hx : VRep E F w β (.os o len) (a.eval xo)) (hy : VRep E F w β (.lit τ cs) (a.eval yo)) (hob : obj s.objs o = .deep false τ n p f)
  (hboxes : clear o s.objs = true) (hzs : z = E.size τ) (hz0 : 0 < z) (habs : absorb E o s.objs cs = some (true, told, os1)) (hdec : E.dec τ told = some y) (hlp : len ≤ p) (hmax : len + 1 ≤ 9223372036854775807) (hbytes : (len + 1) * by' ≤ 140737488355328)
  {K : Act → World → Prop} {Q : Exit → Act → World → Prop}
  (next : ∀ F' β' v w', Rel E F0 w0 F' β' (({ s with objs := (os1.set o (.deep false τ (len + 1) (len + 1) fun i => if i < len then f i else y)).map (Ob.kill o) } : St RT den).kill (victim E s (Op.call ⟨.builtin .append, args, argTypes⟩))) a w' →
   VRep E F' w' β' (.os o (len + 1)) v → (∀ i, i < s.objs.length → β i = none → (∃ cs, s.objs[i]? = some (.box false cs) ∧ cs.all D.pure = true) → β' i = none ∧ ((os1.set o (.deep false τ (len + 1) (len + 1) fun i => if i < len then f i else y)).map (Ob.kill o))[i]? = s.objs[i]?) → K (a.put dst v) w') :
  Oper.wp P ⟨dst, .call ⟨.builtin .append, args, argTypes⟩, ty, pos, after, guard⟩ a w K Q := by simp [absorb] at habs
theorem appendD_emp_wp (hE : Ok E P) {F0 : Was} {w0 : World} {F : Frz} {β : Bet} {s : St RT den} {a : Act} {w : World} (h : Rel E F0 w0 F β s a w) {dst : Option Tmp} {ty : TypeId} {pos : String} {after : Array Edge} {guard : Option (Nat × Bool)}
  {args : Array Operand} {argTypes : Array TypeId} {xo yo : Operand} {t e by' z : Nat} {τ τ' : RT} {zc cs told : List (D RT den)} {os1 : List (Ob RT den)} {y : den τ} {z0 : Bool}
  (hvic : victim E s (Op.call ⟨.builtin .append, args, argTypes⟩) = none) (hxs : args.toList = [xo, yo]) (hts : argTypes.toList = [t, t]) (he : E.elem t = some e) (hby : E.bytes e = some by') (hzc : E.zero e = some zc) (hz : E.sz e = some z)
  (hx : VRep E F w β (.emp z0 τ') (a.eval xo)) (hy : VRep E F w β (.lit τ cs) (a.eval yo)) (hzs : z = E.size τ) (hz0 : 0 < z) (habs : absorb E s.objs.length s.objs cs = some (true, told, os1)) (hdec : E.dec τ told = some y) (hbytes : 1 * by' ≤ 140737488355328)
  {K : Act → World → Prop} {Q : Exit → Act → World → Prop}
  (next : ∀ F' β' v w', Rel E F0 w0 F' β' (({ s with objs := os1 ++ [.deep false τ 1 1 fun _ => y] } : St RT den).kill (victim E s (Op.call ⟨.builtin .append, args, argTypes⟩))) a w' →
   VRep E F' w' β' (.os s.objs.length 1) v → (∀ i, i < s.objs.length → β i = none → (∃ cs, s.objs[i]? = some (.box false cs) ∧ cs.all D.pure = true) → β' i = none ∧ (os1 ++ [.deep false τ 1 1 fun _ => y])[i]? = s.objs[i]?) → K (a.put dst v) w') :
  Oper.wp P ⟨dst, .call ⟨.builtin .append, args, argTypes⟩, ty, pos, after, guard⟩ a w K Q := by simp [absorb] at habs
end Go.Proofs.Ytcmfekgdlaffkaa.Vm

