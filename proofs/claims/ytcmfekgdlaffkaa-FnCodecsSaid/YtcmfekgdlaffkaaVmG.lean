
/- The value machine: each operation on the machine. Conditions: none. -/
import Derived.Test.YtcmfekgdlaffkaaVmF
import Derived.Laws.BytesString
namespace Go.Proofs.Ytcmfekgdlaffkaa.Vm
open Go Go.RowKit
set_option linter.unusedVariables false
set_option linter.unusedSimpArgs false
variable {RT : Type} {den : RT → Type} {E : Env RT den} {P : Program}
theorem wp_value {o : Oper} {a : Act} {w : World} {K : Act → World → Prop} {Q : Exit → Act → World → Prop} {v : Value} (h : (execOp a.eval o).run P w = .ok (.value v) w) (hk : K (a.put o.dst v) w) : o.wp P a w K Q := by
 unfold Oper.wp
 rw [h]
 exact hk
theorem wp_value' {o : Oper} {a : Act} {w w' : World} {K : Act → World → Prop} {Q : Exit → Act → World → Prop} {v : Value} (h : (execOp a.eval o).run P w = .ok (.value v) w') (hk : K (a.put o.dst v) w') : o.wp P a w K Q := by
 unfold Oper.wp
 rw [h]
 exact hk
theorem wp_skip' {o : Oper} {a : Act} {w w' : World} {K : Act → World → Prop} {Q : Exit → Act → World → Prop} (h : (execOp a.eval o).run P w = .ok .skip w') (hk : K (a.put o.dst Go.undef) w') : o.wp P a w K Q := by
 unfold Oper.wp
 rw [h]
 exact hk
theorem sz1 (hE : Ok E P) {τ : RT} (hb : E.byt τ = true) (f : Nat → den τ) : E.size τ = 1 := by
 obtain ⟨x, hx⟩ := hE.byt τ hb (f 0)
 rw [← hE.size τ (f 0), hx]
 rfl
theorem str_core (hE : Ok E P) {F : Frz} {w : World} {τ : RT} {n : Nat} {f : Nat → den τ} (hb : E.byt τ = true) (p : Option Addr) (cap b o : Nat) (u : Nat → Nat → Value) (k1 : n ≠ 0 → p = some (at' b o))
  (k7 : ∀ i j c, i < n → (E.cells τ (f i))[j]? = some c → VRep E F w noBet c (u i j)) (k8 : ∀ i j, i < n → j < E.size τ → w.cell? (at' b (o + i * E.size τ + j)) = some (u i j)) :
  (Conv.bytesToString (.slice p n cap)).run P w = .ok (.string (bytesOf n fun i => byteOf (E.cells τ (f i)))) w := by
 have one : E.size τ = 1 := sz1 hE hb f
 cases p with
 | none =>
  have hn : n = 0 := by
   cases n with
   | zero => rfl
   | succ n => cases k1 (by omega)
  subst hn
  rfl
 | some a =>
  have hu : ∀ i, i < n → u i 0 = .int .u8 (byteOf (E.cells τ (f i))) := by
   intro i hi
   obtain ⟨x, hx⟩ := hE.byt τ hb (f i)
   have := k7 i 0 (.int .u8 x) hi (by rw [hx]; rfl)
   rw [hx]
   generalize u i 0 = v at this ⊢
   cases this; rfl
  have hl := run_loadCells_list (P := P) (w := w) a (((List.range n).map fun i => byteOf (E.cells τ (f i))).map (Value.int .u8)) (fun j v hv => by
   simp only [List.getElem?_map, Option.map_eq_some_iff, List.getElem?_range] at hv
   obtain ⟨_, ⟨i, hi, rfl⟩, rfl⟩ := hv
   have hjn : j < n ∧ i = j := by
    rw [List.getElem?_eq_some_iff] at hi
    obtain ⟨h9, h10⟩ := hi
    simp at h9 h10
    exact ⟨h9, h10.symm⟩
   obtain ⟨hjn, rfl⟩ := hjn
   have ha := k1 (by omega)
   cases ha
   have := k8 i 0 hjn (by omega)
   rw [one, Nat.mul_one, Nat.add_zero] at this
   rw [show (at' b o).add i = at' b (o + i) from Addr.add_lit b o i, this, hu i hjn])
  have hlen : (((List.range n).map fun i => byteOf (E.cells τ (f i))).map (Value.int .u8)).length = n := by simp
  rw [hlen] at hl
  exact run_bytesToString (P := P) w a n cap _ hl
theorem strOf_rep (hE : Ok E P) {F0 : Was} {w0 : World} {F : Frz} {β : Bet} {s : St RT den} {a : Act} {w : World} (hrel : Rel E F0 w0 F β s a w) {d d' : D RT den} {v : Value} (h : VRep E F w β d v) (hs : strOf E (rdRow s.objs d) = some d') :
  ∃ v', (∃ p l c, v = .slice p l c ∧ (Conv.bytesToString (.slice p l c)).run P w = .ok v' w) ∧ VRep E F w β d' v' := by
 cases h with
 | emp z τ a h1 h2 h3 =>
  simp only [rdRow, strOf, Option.some.injEq] at hs
  subst hs
  refine ⟨_, ⟨a, 0, 0, rfl, ?_⟩, .str _⟩
  cases a with
  | none => rfl
  | some a =>
   have := run_bytesToString (P := P) w a 0 0 [] (run_loadCells_list (P := P) (w := w) a [] (by simp))
   exact this
 | rs z τ n f p cap b o u k1 k2 k3 k4 k5 k6 k7 k8 =>
  simp only [rdRow, strOf] at hs
  cases hb : E.byt τ with
  | false => rw [hb] at hs; cases hs
  | true =>
   rw [hb] at hs
   simp only [cond_true, Option.some.injEq] at hs
   subst hs
   exact ⟨_, ⟨p, n, cap, rfl, str_core hE hb p cap b o u k1 k7 (fun i j hi hj => (k8 i j hi hj).2)⟩, .str _⟩
 | os o len cap b m hb0 hcap hlm =>
  simp only [rdRow] at hs
  cases hob : obj s.objs o <;> rw [hob] at hs <;> try (simp only [strOf, reduceCtorEq] at hs; done)
  rename_i l τ n f
  simp only [strOf] at hs
  cases hb : E.byt τ with
  | false => rw [hb] at hs; cases hs
  | true =>
   rw [hb] at hs
   simp only [cond_true, Option.some.injEq] at hs
   subst hs
   obtain ⟨hmn, ⟨hm1, hm2⟩, cur, e', hh, hsz, hr⟩ := hrel.objs o _ (obj_some hob (by simp)) b m hb0
   refine ⟨_, ⟨_, len, cap, rfl, str_core hE hb (some (at' b 0)) cap b 0 (fun i j => cur.getD (i * E.size τ + j) Go.undef) (fun _ => rfl) (fun i j c hi hc => hr i j c (by omega) hc) (fun i j hi hj => ?_)⟩, .str _⟩
   have hlt : i * E.size τ + j < cur.size := by
    rw [hsz]
    have h1 : (i + 1) * E.size τ ≤ m.2 * E.size τ := Nat.mul_le_mul_right _ (by omega)
    rw [Nat.add_mul, Nat.one_mul] at h1
    omega
   rw [Nat.zero_add]
   exact cell_own hh hlt
 | os0 o a0 hq =>
  simp only [rdRow] at hs
  cases hob : obj s.objs o <;> rw [hob] at hs <;> try (simp only [strOf, reduceCtorEq] at hs; done)
  rename_i l τ n f
  simp only [strOf] at hs
  cases hb : E.byt τ with
  | false => rw [hb] at hs; cases hs
  | true =>
   rw [hb] at hs
   simp only [cond_true, Option.some.injEq] at hs
   subst hs
   refine ⟨_, ⟨a0, 0, 0, rfl, ?_⟩, .str _⟩
   cases a0 with
   | none => rfl
   | some a =>
    have := run_bytesToString (P := P) w a 0 0 [] (run_loadCells_list (P := P) (w := w) a [] (by simp))
    exact this
 | _ => simp [rdRow, strOf] at hs
theorem zero_rep (hE : Ok E P) {t : Nat} {cs : List (D RT den)} (h : E.zero t = some cs) : ∃ i z, P.info? t = some i ∧ i.zero = some z ∧ z.cells.size = cs.length ∧ i.size = cs.length ∧ cs.all D.pure = true ∧
  ∀ (F : Frz) (w : World) j c, cs[j]? = some c → VRep E F w noBet c (z.cells.getD j Go.undef) := by
 obtain ⟨z, h1, h2, h3, h4, h5⟩ := hE.zero t cs h
 cases hi : P.info? t with
 | none => simp [hi] at h1
 | some i =>
  have h6 := hE.sz t _ h3
  simp [hi] at h1 h6
  exact ⟨i, z, rfl, h1, h2, h6, h4, h5⟩
theorem alloc_run (hE : Ok E P) {t : Nat} {i : TypeInfo} {z : Value} (h1 : P.info? t = some i) (h2 : i.zero = some z) (w : World) :
  (Instr.alloc t true (.tuple #[])).run P w = .ok (.pointer (some (at' w.heap.size 0))) (w.alloc (.cells z.cells t)) := by
 simp [Instr.alloc, zeroValue, typeInfo, h1, h2, newVar, newRow, at']
theorem no_new {w : World} {β : Bet} {F0 : Was} {w0 : World} {F : Frz} {s : St RT den} {a : Act} (h : Rel E F0 w0 F β s a w) (i : Nat) (m : Nat × Nat) : β i ≠ some (w.heap.size, m) := fun hi => by have := (h.names i _ _ hi).2.1; omega
theorem val_run (hE : Ok E P) {pc : Nat → List (D RT den) → Option (D RT den)} {F0 : Was} {w0 : World} {F : Frz} {β : Bet} {s : St RT den} {a : Act} {w : World} (h : Rel E F0 w0 F β s a w) (o : Oper) (al : Nat) {d : D RT den}
  (hn : match o.op with | .alloc _ | .buildSlice .. | .call { callee := .value _, .. } => False | _ => True)
  (hv : val E pc s al o.type o.op = some d) : ∃ v, (execOp a.eval o).run P w = .ok (.value v) w ∧ VRep E F w β d v := by
 obtain ⟨dst, op, ty, pos, after, guard⟩ := o
 cases op <;> simp only [val, reduceCtorEq] at hv hn ⊢ <;> simp only [execOp]
 case move x => have hv := Option.some.inj hv; subst hv; exact ⟨_, rfl, ev_rep h ty x⟩
 case assign x => have hv := Option.some.inj hv; subst hv; exact ⟨_, rfl, ev_rep h ty x⟩
 case pick c x y =>
  have hc := ev_rep h 0 c
  have hx := ev_rep h ty x
  have hy := ev_rep h ty y
  generalize E.ev s 0 c = dc at hc hv
  generalize E.ev s ty x = dx at hx hv
  generalize E.ev s ty y = dy at hy hv
  split at hv
  ·rename_i t
   rw [hc.toBool]
   refine ⟨if t = true then a.eval x else a.eval y, by simp [asBool], ?_⟩
   generalize a.eval x = vx at hx ⊢
   generalize a.eval y = vy at hy ⊢
   split at hv
   ·rename_i d' hm
    have hv := Option.some.inj hv; subst hv
    cases hx <;> cases hy <;> simp only [merge, reduceCtorEq, Option.some.injEq] at hm
    ·split at hm
     ·rename_i k n k' n' hk; subst hk
      have hm := Option.some.inj hm; subst hm
      cases t <;> exact .int _ _
     ·simp at hm
    ·subst hm; cases t <;> exact .bool _
   ·cases t <;> simp at hv <;> subst hv <;> simpa
  ·simp at hv
 case load t x =>
  split at hv
  ·rename_i d' hl
   have hv := Option.some.inj hv; subst hv
   obtain ⟨v, h1, h2⟩ := load_rep hE h (ev_rep h 0 x) hl
   exact ⟨v, by simp [h1], h2⟩
  ·simp only [Option.bind_eq_some_iff] at hv
   obtain ⟨⟨c, d'⟩, hl, hv⟩ := hv
   cases c with
   | false => cases hv
   | true =>
    have hv := Option.some.inj hv; subst hv
    obtain ⟨v, h1, h2⟩ := dload_rep hE h (ev_rep h 0 x) hl rfl
    exact ⟨v, by simp [h1], h2⟩
 case nilCheck x =>
  have hx := ev_rep h 0 x
  generalize E.ev s 0 x = dx at hx hv
  generalize a.eval x = vx at hx
  cases hx <;> simp only [reduceCtorEq, Option.some.injEq] at hv <;> subst hv
  ·rename_i o off b m hb; exact ⟨_, rfl, .ref o off b m hb⟩
  ·rename_i o sz j off b m hjm hb; exact ⟨_, rfl, .eref o sz j off b m hb hjm⟩
  ·rename_i cs b o u h1 h2; exact ⟨_, rfl, .rptr cs b o u h1 h2⟩
  ·rename_i f cap vs h1 h2; exact ⟨_, rfl, .fn f cap vs h1 h2⟩
 case binOp op t x y yt =>
  have sh : ∀ op', (op' = .shl ∨ op' = .shr) → ((shift op' (E.ev s 0 x) (E.ev s 0 y)).bind fun r => bif r.1 then some r.2 else none) = some d →
    ∃ v, (do eqGuard op' t x y (a.eval x) (a.eval y); Go.binOp op' t (a.eval x) (a.eval y) : Sem Value).run P w = .ok v w ∧ VRep E F w β d v := by
   intro op' hop hv
   have hx := ev_rep h 0 x
   have hy := ev_rep h 0 y
   generalize E.ev s 0 x = dx at hx hv
   generalize E.ev s 0 y = dy at hy hv
   generalize a.eval x = vx at hx ⊢
   generalize a.eval y = vy at hy ⊢
   simp only [Option.bind_eq_some_iff] at hv
   obtain ⟨⟨c, r⟩, hr, hv⟩ := hv
   cases hx <;> cases hy <;> simp only [shift, reduceCtorEq] at hr
   rename_i k m k' m'
   rcases hop with rfl | rfl
   all_goals
    simp only [Option.some.injEq, Prod.mk.injEq] at hr
    obtain ⟨rfl, rfl⟩ := hr
    cases hc : decide (0 ≤ m') with
    | false => simp [hc] at hv
    | true =>
     simp only [hc, cond_true, Option.some.injEq] at hv
     subst hv
     have hc' : ¬ m' < 0 := by have := of_decide_eq_true hc; omega
     exact ⟨_, by simp [eqGuard, Go.binOp, Op.shift, hc', shlInt, shrInt], .int _ _⟩
  split at hv
  ·obtain ⟨v, hr, hd⟩ := sh .shl (.inl rfl) hv
   exact ⟨v, by simp only [Sem.run_bind] at hr ⊢; rw [hr]; rfl, hd⟩
  ·obtain ⟨v, hr, hd⟩ := sh .shr (.inr rfl) hv
   exact ⟨v, by simp only [Sem.run_bind] at hr ⊢; rw [hr]; rfl, hd⟩
  ·rename_i h1 h2
   obtain ⟨v, hr, hd⟩ := run_binOp hE op t x y _ _ d (a.eval x) (a.eval y) ⟨h1, h2⟩ (ev_rep h t x) (ev_rep h t y) hv
   refine ⟨v, ?_, hd⟩
   simp only [Sem.run_bind] at hr ⊢
   rw [hr]; rfl
 case convert src dst x =>
  have hx := ev_rep h 0 x
  cases hk0 : E.ik src with
  | some k0 =>
   rw [hk0] at hv
   simp only [Option.bind_eq_some_iff] at hv
   obtain ⟨k, hk, hv⟩ := hv
   generalize E.ev s 0 x = dx at hx hv
   generalize a.eval x = vx at hx
   cases hx <;> simp only [reduceCtorEq, Option.some.injEq] at hv
   subst hv
   exact ⟨_, by simp [convert, run_underlying (hE.ik src k0 hk0), run_underlying (hE.ik dst k hk), Conv.intToInt], .int _ _⟩
  | none =>
   rw [hk0] at hv
   simp only [Option.bind_eq_some_iff] at hv
   obtain ⟨e, he, ke, hke, hv⟩ := hv
   cases hq : decide (ke = .u8) && E.est dst with
   | false => rw [hq] at hv; cases hv
   | true =>
    rw [hq] at hv
    simp only [Bool.and_eq_true, decide_eq_true_eq] at hq
    obtain ⟨rfl, hd⟩ := hq
    simp only [cond_true] at hv
    obtain ⟨v, hr, hs⟩ := strOf_rep hE h hx hv
    refine ⟨v, ?_, hs⟩
    obtain ⟨p, l, c, hvx, hr⟩ := hr
    rw [hvx]
    have := (run_convert_bytes_string (P := P) w src dst e p l c (hE.elem src e he) (hE.ik e _ hke) (hE.est dst hd)).trans hr
    simp [this]
 case makeFunc fn first caps =>
  cases fn <;> simp only [reduceCtorEq] at hv
  rename_i f
  cases hfe : first.isEmpty with
  | false => simp [hfe] at hv
  | true =>
   simp only [hfe, cond_true, Option.some.injEq] at hv
   subst hv
   have hf0 : first = #[] := by simpa using hfe
   subst hf0
   refine ⟨.func (.func f) #[] (caps.map a.eval), by simp [Instr.makeFunc], .fn f _ _ (by simp) (fun j c hc => ?_)⟩
   simp only [List.getElem?_map, Option.map_eq_some_iff] at hc
   obtain ⟨x, hx, rfl⟩ := hc
   have hj : j < caps.size := by have := (List.getElem?_eq_some_iff.1 hx).1; simpa using this
   have e : (caps.map a.eval).getD j Go.undef = a.eval x := by
    simp only [Array.getElem?_toList] at hx
    have : caps[j] = x := by simpa [hj] using hx
    simp [Array.getD, hj, this]
   rw [e]
   exact ev_rep h 0 x
 case slice t x lo hi mx =>
  cases mx with
  | some m => simp at hv
  | none =>
   simp only [Option.bind_eq_some_iff] at hv
   obtain ⟨e, he, z, hz, n, hn, ⟨c, r⟩, hc, hv⟩ := hv
   cases c with
   | false => simp at hv
   | true =>
    simp only [cond_true, Option.some.injEq] at hv
    subst hv
    obtain ⟨v, h1, h2⟩ := cut_rep hE (w := w) (β := β) (F := F) he hz (vx := a.eval x) (vlo := lo.map a.eval) (vhi := hi.map a.eval) (ev_rep h 0 x) hn (by
      cases lo with
      | none => exact .inl ⟨rfl, rfl⟩
      | some l => exact .inr ⟨_, rfl, ev_rep h 0 l⟩) (by
      cases hi with
      | none => exact .inl ⟨rfl, rfl⟩
      | some l => exact .inr ⟨_, rfl, ev_rep h 0 l⟩) hc
    exact ⟨v, by simp [h1], h2⟩
 case unOp op t x =>
  have hx := ev_rep h 0 x
  generalize E.ev s 0 x = dx at hx hv
  generalize a.eval x = vx at hx ⊢
  cases hx <;> simp only [unOp, reduceCtorEq] at hv
  ·cases op <;> simp at hv; subst hv
   exact ⟨_, by simp [Op.unary, Op.intArith], .int _ _⟩
  ·cases op <;> simp at hv; subst hv
   exact ⟨_, by simp [Op.unary], .bool _⟩
 case fieldAddr t x f =>
  simp only [Option.bind_eq_some_iff] at hv
  obtain ⟨p, hp, n, hn', hv⟩ := hv
  split at hv
  ·simp at hv
  ·rename_i h0
   have hx := ev_rep h 0 x
   generalize E.ev s 0 x = dx at hx hv
   generalize a.eval x = vx at hx
   cases hx <;> simp only [reduceCtorEq, Option.some.injEq] at hv <;> subst hv
   ·rename_i o off b m hb
    exact ⟨_, by simp only [Sem.run_bind, run_fieldAt hE hp hn' h0, Result.andThen_ok, Sem.run_pure], .ref o _ b m hb⟩
   ·rename_i o sz j off b m hjm hb
    refine ⟨.pointer (some (at' b (j * sz + off + p.1))), by simp only [Sem.run_bind, run_fieldAt hE hp hn' h0, Result.andThen_ok, Sem.run_pure], ?_⟩
    rw [Nat.add_assoc]
    exact .eref o sz j _ b m hb hjm
   ·rename_i cs b o u h1 h2
    refine ⟨_, by simp only [Sem.run_bind, run_fieldAt hE hp hn' h0, Result.andThen_ok, Sem.run_pure], .rptr _ b (o + p.1) (fun j => u (p.1 + j)) (fun j c hc => ?_) (fun j hj => ?_)⟩
    ·rw [List.getElem?_drop] at hc
     exact h1 _ c hc
    ·rw [List.length_drop] at hj
     rw [Nat.add_assoc]
     exact h2 _ (by omega)
 case field t x f =>
  simp only [Option.bind_eq_some_iff] at hv
  obtain ⟨p, hp, n, hn', hv⟩ := hv
  have hx := ev_rep h 0 x
  generalize E.ev s 0 x = dx at hx hv
  generalize a.eval x = vx at hx
  cases hx <;> simp only [reduceCtorEq, Option.bind_eq_some_iff] at hv
  rename_i cs vs h1 h2
  obtain ⟨cs', hs, g, hg, hd⟩ := hv
  obtain ⟨v, hr, hrep⟩ := run_field hE hp hn' hg (.agg cs vs h1 h2) hs hd
  exact ⟨v, by simp [hr], hrep⟩
 case extract x i =>
  have hx := ev_rep h 0 x
  generalize E.ev s 0 x = dx at hx hv
  generalize a.eval x = vx at hx
  cases hx <;> simp only [reduceCtorEq] at hv
  rename_i ds vs h1 h2
  have hlt : i < vs.size := by rw [← h1]; exact (List.getElem?_eq_some_iff.1 hv).1
  have e1 := getD_some hlt
  have hr := h2 i d hv
  generalize vs.getD i Go.undef = u at e1 hr
  exact ⟨u, by simp [Instr.extract, e1], hr⟩
 case indexAddr t x i =>
  simp only [Option.bind_eq_some_iff] at hv
  obtain ⟨e, he, z, hz, hv⟩ := hv
  have hx := ev_rep h 0 x
  have hi := ev_rep h 0 i
  generalize E.ev s 0 x = dx at hx hv
  generalize E.ev s 0 i = di at hi hv
  generalize a.eval x = vx at hx
  generalize a.eval i = vi at hi
  cases hx <;> cases hi <;> simp only [reduceCtorEq] at hv
  ·rename_i zz τ n f p cap b o u h1 h2 h3 h4 h5 h6 h7 h8 k m
   split at hv
   ·rename_i hk
    obtain ⟨hk1, hk2, hk3⟩ := hk
    have hv := Option.some.inj hv; subst hv
    have hp := h1 (by omega)
    subst hp
    refine ⟨_, by simp [run_indexAt hE he hz b o n cap k m hk2 hk3]; rfl, .rptr _ b _ (u m.toNat) (fun j c hc => h7 _ j c hk3 hc) (fun j hj => ?_)⟩
    rw [hk1]
    exact h8 _ j hk3 (by rw [hE.size] at hj; exact hj)
   ·simp at hv
  ·rename_i o len cap b mm hcap hlm hb k m
   split at hv
   ·rename_i hk
    have hv := Option.some.inj hv; subst hv
    refine ⟨_, by simp [run_indexAt hE he hz b 0 len cap k m hk.1 hk.2]; rfl, ?_⟩
    have := VRep.eref (E := E) (F := F) (w := w) (β := β) o z m.toNat 0 b mm hb (by omega)
    simpa using this
   ·simp at hv
  ·split at hv
   ·rename_i hk
    exact absurd hk.2 (Nat.not_lt_zero _)
   ·simp at hv
 case call c =>
  obtain ⟨callee, args, argTypes⟩ := c
  cases callee with
  | value f => simp at hn
  | invoke f m => simp at hv
  | builtin b =>
   have lst : ∀ (g : Value → Value → Sem Value) (f : Int → Int → Int), (∀ k a k' b, (g (.int k a) (.int k' b)).run P w = .ok (.int k (f a b)) w) → leasts f (args.toList.map (E.ev s 0)) = some d →
     ∃ x xs, args.toList = x :: xs ∧ ∃ v, ((xs.map a.eval).foldlM g (a.eval x)).run P w = .ok v w ∧ VRep E F w β d v := by
    intro g f hg hl
    cases hq : args.toList with
    | nil => rw [hq] at hl; simp [leasts] at hl
    | cons x xs =>
     rw [hq] at hl
     have hx := ev_rep h 0 x
     simp only [List.map_cons] at hl
     generalize E.ev s 0 x = dx at hx hl
     cases dx <;> simp only [leasts, reduceCtorEq] at hl
     rename_i k m
     have := hx.toInt
     obtain ⟨v, h1, h2⟩ := least_run (P := P) (w := w) (F := F) (β := β) (g := g) hg (xs.map (E.ev s 0)) (xs.map a.eval) k m d hl (by simp) (fun i y hy => by
      simp only [List.getElem?_map, Option.map_eq_some_iff] at hy
      obtain ⟨u, hu, rfl⟩ := hy
      have e : (xs.map a.eval).getD i Go.undef = a.eval u := by simp [List.getD_eq_getElem?_getD, hu]
      rw [e]; exact ev_rep h 0 u)
     exact ⟨x, xs, rfl, v, by rw [this]; exact h1, h2⟩
   cases b <;> simp only [reduceCtorEq] at hv
   case max =>
    obtain ⟨x, xs, hq, v, h1, h2⟩ := lst Builtin.max2 maxInt (fun k m k' m' => by by_cases hc : m' > m <;> simp [Builtin.max2, maxInt, hc]) hv
    refine ⟨v, ?_, h2⟩
    have e : (args.map a.eval).toList = a.eval x :: xs.map a.eval := by rw [Array.toList_map, hq]; rfl
    simp [resolve, invoke, Go.builtin, Builtin.max_, hq, h1]
   case min =>
    obtain ⟨x, xs, hq, v, h1, h2⟩ := lst Builtin.min2 minInt (fun k m k' m' => by by_cases hc : m' < m <;> simp [Builtin.min2, minInt, hc]) hv
    refine ⟨v, ?_, h2⟩
    have e : (args.map a.eval).toList = a.eval x :: xs.map a.eval := by rw [Array.toList_map, hq]; rfl
    simp [resolve, invoke, Go.builtin, Builtin.min_, hq, h1]
   split at hv
   ·rename_i x t hx ht
    simp only [Option.bind_eq_some_iff] at hv
    obtain ⟨e, he, n, hn', hv⟩ := hv
    have hv := Option.some.inj hv; subst hv
    have ha : args = #[x] := Array.toList_inj.1 (by simpa using hx)
    have hat : argTypes = #[t] := Array.toList_inj.1 (by simpa using ht)
    subst ha; subst hat
    have hxr := ev_rep h 0 x
    generalize E.ev s 0 x = dx at hxr hn'
    obtain ⟨vx, hvx⟩ : ∃ v, a.eval x = v := ⟨_, rfl⟩
    rw [hvx] at hxr
    refine ⟨.int .i64 n, ?_, .int _ _⟩
    have hu := hE.elem t e he
    cases hxr <;> simp only [lenOf, reduceCtorEq, Option.some.injEq] at hn' <;> subst hn' <;> simp [resolve, invoke, Go.builtin, Builtin.len_, run_underlying hu, hvx, goInt]
   ·simp at hv
 case build t ps =>
  cases hstr : E.str t with
  | false => simp [hstr] at hv
  | true =>
   simp only [hstr, cond_true, Option.bind_eq_some_iff] at hv
   obtain ⟨cs, hz, cs', hf, hv⟩ := hv
   have hv := Option.some.inj hv; subst hv
   obtain ⟨fs, hu, hm⟩ := hE.str t hstr
   obtain ⟨i, z, h1, h2, h3, h4, h5, h6⟩ := zero_rep hE hz
   obtain ⟨pl, hpl⟩ := Option.isSome_iff_exists.1 hm
   obtain ⟨vs, hv1, hv2, hv3⟩ := fields_rep hE h t fs hu pl.toArray (fun i f hf n hn => by
    have := mapM_some_get hpl i f (by simpa using hf)
    cases hq : P.info? f.type with
    | none => simp [hq] at hn
    | some ti => simp [hq] at hn this; simp [← this, hn]) ps.toList cs cs' z.cells hf h3 (fun j c hc => (h6 F w j c hc).up)
   refine ⟨.agg vs, ?_, .agg cs' vs hv2.symm hv3⟩
   have hb := run_build (P := P) w t (ps.map fun (x : Nat × Operand) => (x.1, a.eval x.2)) vs (by
    unfold Program.built
    rw [h1, hu]
    simp only [h2, hpl]
    simpa using hv1)
   simp [hb]
end Go.Proofs.Ytcmfekgdlaffkaa.Vm

