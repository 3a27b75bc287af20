/- The value machine: one step of a region; what two steps look at; steps that change places. Conditions: none. -/
import Derived.Test.YtokpamekcpbkaaaVmX
namespace Go.Proofs.Ytokpamekcpbkaaa.Vm
open Go Go.RowKit
set_option linter.unusedVariables false
set_option linter.unusedSimpArgs false

variable {RT : Type} {den : RT → Type} {E : Env RT den} {P : Program}

section
variable (E : Env RT den) (pc : Pr RT den)

def doOp (o : Oper) (al : Nat) (s : St RT den) : Option (St RT den) :=
  match xOf pc.has o.op with
  | some (f, xs) => (callX E pc s.objs f (E.args s (E.par f) xs)).bind fun r => some (({ s with objs := r.2 } : St RT den).put o.dst r.1)
  | none => bif still o.op then (val E pc.fn s al o.type o.op).bind fun d => some (s.put o.dst d)
    else (eff E s o.type o.op).bind fun r => some ((({ s with objs := r.2 } : St RT den).kill (victim E s o.op)).put o.dst r.1)

def stepOp (ops : Array Oper) (p : Oper × Nat) (s : St RT den) : Option (St RT den) :=
  match p.1.guard with
  | none => doOp E pc p.1 p.2 s
  | some (j, want) =>
    match dstOf ops j with
    | some t =>
      match s.get t with
      | .bool g => bif g == want then doOp E pc p.1 p.2 s else some (s.put p.1.dst .undef)
      | .undef => some (s.put p.1.dst .undef)
      | _ => none
    | none => none

def runOps (ops : Array Oper) : List (Oper × Nat) → St RT den → Option (St RT den)
  | [], s => some s
  | p :: l, s => (stepOp E pc ops p s).bind (runOps ops l)

end

theorem put_same {s : St RT den} {t : Nat} {d : D RT den} (h : s.get t = d) (hd : d ≠ .undef) : s.put (some t) d = s := by
  unfold St.put
  have : s.slots.set t d = s.slots := by
    apply List.ext_getElem?
    intro i
    rw [List.getElem?_set]
    split
    · rename_i e; subst e
      split
      · rename_i hl
        unfold St.get at h
        rw [List.getD_eq_getElem?_getD, List.getElem?_eq_getElem hl] at h
        simp at h
        rw [List.getElem?_eq_getElem hl, h]
      · rename_i hl
        rw [List.getElem?_eq_none (by omega)]
    · rfl
  simp only [this]

theorem ret_run {d d' : D RT den} (h : (Out.ret d).run = some d') : d = d' := by simpa [Out.ret, Out.run] using h

theorem chk_run {c : Bool} {d d' : D RT den} (h : (Out.chk c d).run = some d') : c = true ∧ d = d' := by cases c <;> simp_all [Out.chk, Out.run]

/-- The two say the same. -/
theorem valO_run {pc : Pc RT den} {s : St RT den} {al ty : Nat} {op : Op} {u : Out RT den} {d : D RT den} (h : valO E pc s al ty op = some u) (hd : u.run = some d) : val E pc.run.fn s al ty op = some d := by
  have triv : ∀ {v : Option (D RT den)}, (v.bind fun d => some (Out.ret d)) = some u → v = some d := by
    intro v hv
    simp only [Option.bind_eq_some_iff] at hv
    obtain ⟨d', h1, h2⟩ := hv
    have h2 := Option.some.inj h2; subst h2
    rw [h1, ret_run hd]
  cases op
  case indexAddr t x i =>
    unfold valO at h; unfold val
    simp only [Option.bind_eq_some_iff] at h ⊢
    obtain ⟨e, he, z, hz, h⟩ := h
    refine ⟨e, he, z, hz, ?_⟩
    generalize E.ev s 0 x = dx at h ⊢
    generalize E.ev s 0 i = di at h ⊢
    split at h
    · rename_i z' τ n f k m
      split at h
      · rename_i hzs
        have h := Option.some.inj h; subst h
        obtain ⟨h1, h2⟩ := chk_run hd
        simp only [Bool.and_eq_true, decide_eq_true_eq] at h1
        dsimp only
        rw [if_pos ⟨hzs, h1⟩, h2]
      · simp at h
    · rename_i o len k m
      have h := Option.some.inj h; subst h
      obtain ⟨h1, h2⟩ := chk_run hd
      simp only [Bool.and_eq_true, decide_eq_true_eq] at h1
      dsimp only
      rw [if_pos h1, h2]
    · have h := Option.some.inj h; subst h
      have := (chk_run hd).1
      simp at this
    · simp at h
  case binOp op t x y yt =>
    unfold valO at h
    dsimp only at h
    split at h
    · simp only [Option.bind_eq_some_iff] at h
      obtain ⟨r, hr, h⟩ := h
      have h := Option.some.inj h; subst h
      obtain ⟨h1, h2⟩ := chk_run hd
      simp [val, hr, h1, h2]
    · simp only [Option.bind_eq_some_iff] at h
      obtain ⟨r, hr, h⟩ := h
      have h := Option.some.inj h; subst h
      obtain ⟨h1, h2⟩ := chk_run hd
      simp [val, hr, h1, h2]
    split at h
    · rename_i z τ n f τ' hx hy
      simp only [Option.bind_eq_some_iff] at h
      obtain ⟨e, he, h⟩ := h
      cases op <;> simp only [reduceCtorEq, Option.some.injEq] at h <;> (subst h; simp only [Out.run, Option.bind_eq_some_iff, cond_true, Option.some.injEq] at hd; obtain ⟨b, hb, rfl⟩ := hd; simp [val, hx, hy, binOp, he, hb])
    · rename_i k m k' m' hx hy
      split at h
      · rename_i hk
        subst hk
        split at h
        · have h := Option.some.inj h; subst h
          obtain ⟨h1, h2⟩ := chk_run hd
          simp only [Bool.not_eq_true', decide_eq_false_iff_not] at h1
          simp [val, hx, hy, binOp, intOp, h1, h2]
        · have h := Option.some.inj h; subst h
          obtain ⟨h1, h2⟩ := chk_run hd
          simp only [Bool.not_eq_true', decide_eq_false_iff_not] at h1
          simp [val, hx, hy, binOp, intOp, h1, h2]
        · exact triv h
      · simp at h
    · exact triv h
  case call c =>
    obtain ⟨callee, args, argTypes⟩ := c
    cases callee with
    | value f =>
      unfold valO at h; unfold val
      dsimp only at h ⊢
      split at h
      · rename_i f' cap hf
        simp only [Option.bind_eq_some_iff] at h
        obtain ⟨ys, hys, o, ho, h⟩ := h
        have h := Option.some.inj h; subst h
        simp only [Out.run, Option.bind_eq_some_iff] at hd
        obtain ⟨y, hy, hd⟩ := hd
        cases hq : (o.ok (o.g y) && (!((E.args s (E.par f') args.toList ++ cap).any D.own) && (o.g y).pures || (o.g y).scalar)) with
        | false => rw [hq] at hd; simp at hd
        | true =>
          rw [hq] at hd
          have hd := Option.some.inj hd; subst hd
          simp only [Bool.and_eq_true] at hq
          have hrun : pc.run.fn f' ys = some (o.g y) := by simp [Pc.run, ho, Out.run, hy, hq.1]
          simp only [evCall, hys, Option.bind_some, hrun]
          rw [hq.2]; rfl
      · simp at h
    | invoke f m => exact triv h
    | builtin b => exact triv h
  case slice t x lo hi mx =>
    cases mx with
    | some m => exact triv h
    | none =>
      unfold valO at h; unfold val
      simp only [Option.bind_eq_some_iff] at h ⊢
      obtain ⟨e, he, z, hz, n, hn, r, hr, h⟩ := h
      have h := Option.some.inj h; subst h
      obtain ⟨h1, h2⟩ := chk_run hd
      exact ⟨e, he, z, hz, n, hn, r, hr, by rw [h1, h2]; rfl⟩
  all_goals exact triv h

theorem effO_run {s : St RT den} {ty : Nat} {op : Op} {r : Bool × D RT den × List (Ob RT den)} (h : effO E s ty op = some r) (hr : r.1 = true) : eff E s ty op = some r.2 := by
  have triv : ∀ {v : Option (D RT den × List (Ob RT den))}, (v.bind fun d => some (true, d)) = some r → v = some r.2 := by
    intro v hv
    simp only [Option.bind_eq_some_iff] at hv
    obtain ⟨d', h1, h2⟩ := hv
    have h2 := Option.some.inj h2; subst h2
    exact h1
  cases op
  case makeSlice t l c =>
    unfold effO at h; unfold eff
    simp only [Option.bind_eq_some_iff] at h ⊢
    obtain ⟨e, he, by', hby, τ, hτ, z, hz, y, hy, h⟩ := h
    refine ⟨e, he, by', hby, τ, hτ, z, hz, y, hy, ?_⟩
    generalize E.ev s 0 l = dl at h ⊢
    generalize E.ev s 0 c = dc at h ⊢
    split at h
    · have h := Option.some.inj h; subst h
      simp only [Bool.and_eq_true, decide_eq_true_eq] at hr
      dsimp only
      rw [if_pos hr]
    · simp at h
  case call c =>
    obtain ⟨callee, args, argTypes⟩ := c
    cases callee with
    | value f => exact triv h
    | invoke f m => exact triv h
    | builtin b =>
      by_cases hb : b = .append
      · subst hb
        unfold effO at h; unfold eff
        dsimp only at h ⊢
        split at h
        · rename_i xo yo t t' hxs hts
          try rw [hxs, hts]
          try dsimp only
          split at h
          · rename_i htt
            rw [if_pos htt]
            simp only [Option.bind_eq_some_iff] at h ⊢
            obtain ⟨e, he, by', hby, zc, hzc, z, hz, h⟩ := h
            exact ⟨e, he, by', hby, zc, hzc, z, hz, r, h, by rw [hr]; rfl⟩
          · simp at h
        · simp at h
      · cases b <;> first | exact triv h | exact absurd rfl hb
  all_goals exact triv h

theorem evOp_run {pc : Pc RT den} {o : Oper} {al : Nat} {s : St RT den} {ρ : Type} {k : St RT den → Option ρ} {r : ρ} (h : evOp E pc o al s k = some r) : ∃ s', doOp E pc.run o al s = some s' ∧ k s' = some r := by
  obtain ⟨dst, op, ty, pos, after, guard⟩ := o
  by_cases hp : ∃ c x y, op = .pick c x y
  · obtain ⟨c, x, y, rfl⟩ := hp
    simp only [evOp] at h
    simp only [doOp, xOf, still, cond_true, val]
    generalize E.ev s 0 c = dc at h ⊢
    split at h
    · rename_i t
      split at h
      · rename_i d hm
        exact ⟨_, rfl, h⟩
      · rename_i hm
        cases t with
        | true => exact ⟨_, rfl, h⟩
        | false => exact ⟨_, rfl, h⟩
    · simp at h
  · have e : evOp E pc ⟨dst, op, ty, pos, after, guard⟩ al s k = match xOf pc.has op with
    | some (f, xs) => (argsX E (pc.lend f) s.objs (E.args s (E.par f) xs)).bind fun y => (pc.fx f y.1 y.2.1).bind fun u => u.x.bind fun z =>
        (backX E (pc.lend f) s.objs y.2.2 (u.g z)).bind fun r => k (({ s with objs := r.2 } : St RT den).put dst r.1)
    | none => bif still op then (match valO E pc s al ty op with
      | some u => u.x.bind fun y => bif u.ok (u.g y) then k (s.put dst (u.g y)) else none
      | none => none)
    else (match effO E s ty op with
      | some r => bif r.1 then k ((({ s with objs := r.2.2 } : St RT den).kill (victim E s op)).put dst r.2.1) else none
      | none => none) := by
      cases op <;> first | rfl | (exfalso; exact hp ⟨_, _, _, rfl⟩)
    rw [e] at h
    simp only [doOp]
    cases hxo : xOf pc.has op with
    | some fx =>
      obtain ⟨f, xs⟩ := fx
      rw [hxo] at h
      simp only [Option.bind_eq_some_iff] at h
      obtain ⟨y, hy, u, hu, z, hz, r', hr', hk⟩ := h
      refine ⟨_, ?_, hk⟩
      have hxo' : xOf pc.run.has op = some (f, xs) := hxo
      rw [hxo']
      have hcall : callX E pc.run s.objs f (E.args s (E.par f) xs) = some r' := by
        simp only [callX, Option.bind_eq_some_iff]
        exact ⟨y, hy, u.g z, by simp only [Pc.run, hu, Option.bind_some, OutX.run, hz], hr'⟩
      simp only [hcall, Option.bind_some]
    | none =>
    rw [hxo] at h
    have hxo' : xOf pc.run.has op = none := hxo
    rw [hxo']
    dsimp only at h ⊢
    cases hst : still op with
    | true =>
      simp only [hst, cond_true] at h ⊢
      split at h
      · rename_i u hu
        simp only [Option.bind_eq_some_iff] at h
        obtain ⟨y, hy, h⟩ := h
        cases hok : u.ok (u.g y) with
        | false => rw [hok] at h; simp at h
        | true =>
          rw [hok] at h
          have := valO_run hu (d := u.g y) (by simp [Out.run, hy, hok])
          exact ⟨_, by rw [this]; rfl, h⟩
      · simp at h
    | false =>
      simp only [hst, cond_false] at h ⊢
      split at h
      · rename_i u hu
        cases hok : u.1 with
        | false => rw [hok] at h; simp at h
        | true =>
          rw [hok] at h
          have := effO_run hu hok
          exact ⟨_, by rw [this]; rfl, h⟩
      · simp at h

theorem evOps_run {pc : Pc RT den} {ops : Array Oper} {ρ : Type} {r : ρ} : ∀ (l : List (Oper × Nat)) (s : St RT den) (k : St RT den → Option ρ), evOps E pc ops l s k = some r → ∃ s', runOps E pc.run ops l s = some s' ∧ k s' = some r
  | [], s, k, h => ⟨s, rfl, h⟩
  | (o, al) :: l, s, k, h => by
    simp only [evOps] at h
    simp only [runOps, stepOp]
    split at h
    · rename_i hg
      obtain ⟨s1, h1, h2⟩ := evOp_run h
      simp only [hg, h1, Option.bind_some]
      exact evOps_run l s1 k h2
    · rename_i j want hg
      simp only [hg]
      split at h
      · rename_i t ht
        simp only [ht]
        split at h
        · rename_i g hgt
          simp only [hgt]
          cases want <;> cases g <;> dsimp only at h <;> simp only [cond_true, cond_false] at h <;> rw [put_same hgt (by simp)] at h
          · obtain ⟨s1, h1, h2⟩ := evOp_run h
            simp only [beq_self_eq_true, cond_true, h1, Option.bind_some]
            exact evOps_run l s1 k h2
          · exact evOps_run l _ k h
          · exact evOps_run l _ k h
          · obtain ⟨s1, h1, h2⟩ := evOp_run h
            simp only [beq_self_eq_true, cond_true, h1, Option.bind_some]
            exact evOps_run l s1 k h2
        · rename_i hgt
          simp only [hgt, Option.bind_some]
          exact evOps_run l _ k h
        · simp at h
      · simp at h

/-! ### What a step looks at -/

theorem fields_congr {s s' : St RT den} (t : Nat) : ∀ (ps : List (Nat × Operand)) (cs : List (D RT den)), (∀ u x, x ∈ ps.map (·.2) → E.ev s u x = E.ev s' u x) → fields E s t ps cs = fields E s' t ps cs
  | [], _, _ => rfl
  | (i, x) :: ps, cs, h => by
    simp only [fields]
    congr 1; funext p
    congr 1; funext n
    rw [h p.2 x (by simp)]
    split
    · congr 1; funext cs'
      exact fields_congr t ps cs' (fun u y hy => h u y (by simp at hy ⊢; exact .inr hy))
    · rfl

theorem elems_congr {s s' : St RT den} (τ : RT) : ∀ (ps : List (Nat × Operand)) (j : Nat), (∀ u x, x ∈ ps.map (·.2) → E.ev s u x = E.ev s' u x) → elems E τ s ps j = elems E τ s' ps j
  | [], _, _ => rfl
  | (i, x) :: ps, j, h => by
    simp only [elems]
    rw [h 0 x (by simp)]
    split
    · congr 1; funext y
      rw [elems_congr τ ps (j + 1) (fun u z hz => h u z (by simp at hz ⊢; exact .inr hz))]
    · rfl

theorem args_congr {s s' : St RT den} : ∀ (ts : List Nat) (xs : List Operand), (∀ u x, x ∈ xs → E.ev s u x = E.ev s' u x) → E.args s ts xs = E.args s' ts xs
  | _, [], _ => by simp [Env.args]
  | [], x :: xs, h => by
    simp only [Env.args]
    rw [h 0 x (by simp), args_congr [] xs (fun u y hy => h u y (by simp [hy]))]
  | t :: ts, x :: xs, h => by
    simp only [Env.args]
    rw [h t x (by simp), args_congr ts xs (fun u y hy => h u y (by simp [hy]))]

theorem val_congr {pc : Nat → List (D RT den) → Option (D RT den)} {s s' : St RT den} {al ty : Nat} {op : Op} (ho : s.objs = s'.objs) (h : ∀ t x, x ∈ op.operands.toList → E.ev s t x = E.ev s' t x) : val E pc s al ty op = val E pc s' al ty op := by
  cases op
  case move x => unfold val; dsimp only; rw [h _ x (by simp [Op.operands])]
  case assign x => unfold val; dsimp only; rw [h _ x (by simp [Op.operands])]
  case pick c x y => unfold val; dsimp only; rw [h 0 c (by simp [Op.operands]), h ty x (by simp [Op.operands]), h ty y (by simp [Op.operands])]
  case alloc t => rfl
  case load t x => unfold val; dsimp only; rw [h _ x (by simp [Op.operands]), ho]
  case nilCheck x => unfold val; dsimp only; rw [h _ x (by simp [Op.operands])]
  case binOp op t x y yt => unfold val; dsimp only; rw [h 0 x (by simp [Op.operands]), h 0 y (by simp [Op.operands]), h t x (by simp [Op.operands]), h t y (by simp [Op.operands])]
  case unOp op t x => unfold val; dsimp only; rw [h _ x (by simp [Op.operands])]
  case fieldAddr t x f => unfold val; dsimp only; rw [h _ x (by simp [Op.operands])]
  case field t x f => unfold val; dsimp only; rw [h _ x (by simp [Op.operands])]
  case extract x i => unfold val; dsimp only; rw [h _ x (by simp [Op.operands])]
  case convert s d x => unfold val; dsimp only; rw [h _ x (by simp [Op.operands])]
  case makeFunc fn first caps =>
    cases fn <;> try rfl
    unfold val; dsimp only
    rw [List.map_congr_left (fun x hx => h 0 x (by simp [Op.operands]; exact .inr (by simpa using hx)))]
  case slice t x lo hi mx =>
    cases mx with
    | some m => rfl
    | none =>
      unfold val; dsimp only
      rw [h _ x (by simp [Op.operands])]
      cases lo <;> cases hi <;> dsimp only
      · rw [h _ _ (by simp [Op.operands])]
      · rw [h _ _ (by simp [Op.operands])]
      · rename_i l r
        rw [h 0 l (by simp [Op.operands]), h 0 r (by simp [Op.operands])]
  case indexAddr t x y => unfold val; dsimp only; rw [h _ x (by simp [Op.operands]), h _ y (by simp [Op.operands])]
  case call c =>
    obtain ⟨callee, args, argTypes⟩ := c
    cases callee with
    | value f =>
      unfold val; dsimp only
      rw [h 0 f (by simp [Op.operands, Call.operands]), ho]
      split
      · rw [args_congr _ _ (fun u x hx => h u x (by simp only [Op.operands, Call.operands, Array.toList_append, List.mem_append]; exact .inr hx))]
      · rfl
    | invoke f m => rfl
    | builtin b =>
      have hm : args.toList.map (E.ev s 0) = args.toList.map (E.ev s' 0) := List.map_congr_left (fun x hx => h 0 x (by simp [Op.operands, Call.operands]; simpa using hx))
      cases b <;> try rfl
      case max => unfold val; dsimp only; rw [hm]
      case min => unfold val; dsimp only; rw [hm]
      unfold val; dsimp only
      split
      · rename_i x t hx ht
        rw [h 0 x (by simp [Op.operands, Call.operands, hx])]
      · rfl
  case build t ps =>
    unfold val; dsimp only
    congr 1
    congr 1; funext cs
    rw [fields_congr t ps.toList cs (fun u x hx => h u x (by simpa [Op.operands] using hx))]
  case buildSlice t len ps =>
    unfold val; dsimp only
    congr 1; funext e
    congr 1; funext τ
    congr 1; funext z
    congr 1; funext zc
    split
    · split
      · rfl
      · rw [elems_congr τ ps.toList 0 (fun u x hx => h u x (by simpa [Op.operands] using hx))]
    · rfl
  all_goals rfl

/-- The value that a step puts, where it turns no object. -/
def stepVal (E : Env RT den) (pc : Nat → List (D RT den) → Option (D RT den)) (ops : Array Oper) (p : Oper × Nat) (s : St RT den) : Option (D RT den) :=
  match p.1.guard with
  | none => val E pc s p.2 p.1.type p.1.op
  | some (j, want) =>
    match dstOf ops j with
    | some t =>
      match s.get t with
      | .bool g => bif g == want then val E pc s p.2 p.1.type p.1.op else some .undef
      | .undef => some .undef
      | _ => none
    | none => none

theorem stepOp_still {pc : Pr RT den} {ops : Array Oper} {p : Oper × Nat} {s : St RT den} (h : calm pc.has p.1.op = true) : stepOp E pc ops p s = (stepVal E pc.fn ops p s).bind fun d => some (s.put p.1.dst d) := by
  have h0 : still p.1.op = true ∧ xOf pc.has p.1.op = none := by simpa only [calm, Bool.and_eq_true, Option.isNone_iff_eq_none] using h
  obtain ⟨h, hx⟩ := h0
  unfold stepOp stepVal
  split
  · simp [doOp, h, hx]
  · split
    · rename_i j want hg _ t ht
      split
      · rename_i g hgt
        cases hw : (g == want) with
        | true => simp [doOp, h, hx]
        | false => simp
      · rfl
      · rfl
    · rfl

theorem ev_congr {s s' : St RT den} {l : List Nat} (h : ∀ t ∈ l, s.get t = s'.get t) (u : Nat) (x : Operand) (hx : ∀ t, x = .tmp t → t ∈ l) : E.ev s u x = E.ev s' u x := by
  cases x with
  | tmp t => exact h t (hx t rfl)
  | _ => rfl

theorem looksAt_op {ops : Array Oper} {o : Oper} {t : Nat} (h : .tmp t ∈ o.op.operands.toList) : t ∈ o.looksAt ops := by
  simp only [Oper.looksAt, List.mem_append, List.mem_filterMap]
  exact .inl ⟨_, h, rfl⟩

theorem stepVal_congr {pc : Nat → List (D RT den) → Option (D RT den)} {ops : Array Oper} {p : Oper × Nat} {s s' : St RT den} (ho : s.objs = s'.objs) (h : ∀ t ∈ p.1.looksAt ops, s.get t = s'.get t) : stepVal E pc ops p s = stepVal E pc ops p s' := by
  have hval : val E pc s p.2 p.1.type p.1.op = val E pc s' p.2 p.1.type p.1.op := val_congr ho (fun u x hx => ev_congr h u x (fun t e => looksAt_op (by subst e; exact hx)))
  unfold stepVal
  split
  · exact hval
  · rename_i j want hg
    split
    · rename_i t ht
      have hm : t ∈ p.1.looksAt ops := by
        simp only [Oper.looksAt, hg, List.mem_append]
        right
        unfold dstOf at ht
        simp [ht]
      rw [h t hm, hval]
    · rfl

theorem get_put {s : St RT den} {t d : Nat} {x : D RT den} (h : t ≠ d) : (s.put (some d) x).get t = s.get t := by
  unfold St.put St.get
  simp [List.getElem?_set_ne (Ne.symm h)]

theorem put_objs {s : St RT den} {d : Option Nat} {x : D RT den} : (s.put d x).objs = s.objs := by cases d <;> rfl

theorem put_comm {s : St RT den} {d d' : Option Nat} {x y : D RT den} (h : ∀ t, d = some t → d' ≠ some t) : (s.put d x).put d' y = (s.put d' y).put d x := by
  cases d with
  | none => rfl
  | some d =>
    cases d' with
    | none => rfl
    | some d' =>
      have hne : d ≠ d' := fun e => h d rfl (by rw [e])
      simp only [St.put, St.mk.injEq, and_true]
      exact List.set_comm _ _ hne

theorem bare_calm {has : Nat → Bool} {op : Op} (h : bare op = true) : calm has op = true := by
  cases op <;> first | rfl | (cases h; done) | skip
  rename_i c
  obtain ⟨callee, args, argTypes⟩ := c
  cases callee <;> first | (cases h; done) | skip
  rename_i b
  cases b <;> first | rfl | (cases h; done)
theorem bare_val {pc : Nat → List (D RT den) → Option (D RT den)} {s s' : St RT den} {al ty : Nat} {op : Op} (hb : bare op = true) (h : ∀ t x, x ∈ op.operands.toList → E.ev s t x = E.ev s' t x) : val E pc s al ty op = val E pc s' al ty op := by
  cases op <;> try (cases hb; done)
  case move x => unfold val; dsimp only; rw [h _ x (by simp [Op.operands])]
  case assign x => unfold val; dsimp only; rw [h _ x (by simp [Op.operands])]
  case extract x i => unfold val; dsimp only; rw [h _ x (by simp [Op.operands])]
  case nilCheck x => unfold val; dsimp only; rw [h _ x (by simp [Op.operands])]
  case binOp op t x y yt => unfold val; dsimp only; rw [h 0 x (by simp [Op.operands]), h 0 y (by simp [Op.operands]), h t x (by simp [Op.operands]), h t y (by simp [Op.operands])]
  case unOp op t x => unfold val; dsimp only; rw [h _ x (by simp [Op.operands])]
  case fieldAddr t x f => unfold val; dsimp only; rw [h _ x (by simp [Op.operands])]
  case field t x f => unfold val; dsimp only; rw [h _ x (by simp [Op.operands])]
  case convert s d x => unfold val; dsimp only; rw [h _ x (by simp [Op.operands])]
  case indexAddr t x y => unfold val; dsimp only; rw [h _ x (by simp [Op.operands]), h _ y (by simp [Op.operands])]
  case slice t x lo hi mx =>
    cases mx with
    | some m => rfl
    | none =>
      unfold val; dsimp only
      rw [h _ x (by simp [Op.operands])]
      cases lo <;> cases hi <;> dsimp only
      · rw [h _ _ (by simp [Op.operands])]
      · rw [h _ _ (by simp [Op.operands])]
      · rename_i l r
        rw [h 0 l (by simp [Op.operands]), h 0 r (by simp [Op.operands])]
  case build t ps =>
    unfold val; dsimp only
    congr 1
    congr 1; funext cs
    rw [fields_congr t ps.toList cs (fun u x hx => h u x (by simpa [Op.operands] using hx))]
  case buildSlice t len ps =>
    unfold val; dsimp only
    congr 1; funext e
    congr 1; funext τ
    congr 1; funext z
    congr 1; funext zc
    split
    · split
      · rfl
      · rw [elems_congr τ ps.toList 0 (fun u x hx => h u x (by simpa [Op.operands] using hx))]
    · rfl
  case call c =>
    obtain ⟨callee, args, argTypes⟩ := c
    cases callee <;> try (cases hb; done)
    rename_i b
    cases b <;> try (cases hb; done)
    unfold val; dsimp only
    split
    · rename_i x t hx ht
      rw [h 0 x (by simp [Op.operands, Call.operands, hx])]
    · rfl

theorem snapFlat_mono {os outs : List (Ob RT den)} {d d' : D RT den} (h : snapFlat E os d = some d') : snapFlat E (os ++ outs) d = some d' := by
  cases d with
  | os o len =>
    simp only [snapFlat] at h ⊢
    have : ∀ ob, obj os o = ob → ob ≠ .gone → obj (os ++ outs) o = ob := fun ob hob hg => by
      have hs := obj_some hob hg
      unfold obj
      rw [List.getD_eq_getElem?_getD, List.getElem?_append_left (List.getElem?_eq_some_iff.1 hs).1, hs]; rfl
    split at h
    · rename_i hob
      rw [this _ hob (by simp)]; exact h
    · cases h
  | fn f cap => cases cap <;> first | exact h | (simp [snapFlat] at h; done)
  | _ => first | exact h | (simp [snapFlat] at h; done)
theorem obj_mono {os outs : List (Ob RT den)} {o : Nat} {ob : Ob RT den} (hob : obj os o = ob) (hg : ob ≠ .gone) : obj (os ++ outs) o = ob := by
  have hs := obj_some hob hg
  unfold obj
  rw [List.getD_eq_getElem?_getD, List.getElem?_append_left (List.getElem?_eq_some_iff.1 hs).1, hs]; rfl
theorem snapList_mono {os outs : List (Ob RT den)} : ∀ {l l' : List (D RT den)}, snapList E os l = some l' → snapList E (os ++ outs) l = some l'
  | [], l', h => h
  | d :: l, l', h => by
    simp only [snapList, Option.bind_eq_some_iff] at h ⊢
    obtain ⟨x, hx, y, hy, h⟩ := h
    exact ⟨x, snapFlat_mono hx, y, snapList_mono hy, h⟩
theorem snap1_mono {os outs : List (Ob RT den)} {d d' : D RT den} (h : snap1 E os d = some d') : snap1 E (os ++ outs) d = some d' := by
  cases d with
  | agg cs =>
    simp only [snap1, Option.bind_eq_some_iff] at h ⊢
    obtain ⟨x, hx, h⟩ := h
    exact ⟨x, snapList_mono hx, h⟩
  | ref o off =>
    simp only [snap1] at h ⊢
    split at h
    · rename_i hob
      rw [obj_mono hob (by simp)]
      simp only [Option.bind_eq_some_iff] at h ⊢
      obtain ⟨x, hx, h⟩ := h
      exact ⟨x, snapList_mono hx, h⟩
    · cases h
  | eref o sz j off =>
    simp only [snap1] at h ⊢
    split at h
    · rename_i hob
      rw [obj_mono hob (by simp)]; exact h
    · cases h
  | _ => simp only [snap1] at h ⊢; exact snapFlat_mono h
theorem snaps1_mono {os outs : List (Ob RT den)} : ∀ {l l' : List (D RT den)}, snaps1 E os l = some l' → snaps1 E (os ++ outs) l = some l'
  | [], l', h => h
  | d :: l, l', h => by
    simp only [snaps1, Option.bind_eq_some_iff] at h ⊢
    obtain ⟨x, hx, y, hy, h⟩ := h
    exact ⟨x, snap1_mono hx, y, snaps1_mono hy, h⟩
theorem snap_mono {os outs : List (Ob RT den)} {d d' : D RT den} (h : snap E os d = some d') : snap E (os ++ outs) d = some d' := by
  cases d with
  | fn f cap =>
    simp only [snap, Option.bind_eq_some_iff] at h ⊢
    obtain ⟨x, hx, h⟩ := h
    exact ⟨x, snaps1_mono hx, h⟩
  | _ => simp only [snap] at h ⊢; exact snap1_mono h
theorem snaps_mono {os outs : List (Ob RT den)} : ∀ {l l' : List (D RT den)}, snaps E os l = some l' → snaps E (os ++ outs) l = some l'
  | [], l', h => h
  | d :: l, l', h => by
    simp only [snaps, Option.bind_eq_some_iff] at h ⊢
    obtain ⟨x, hx, y, hy, h⟩ := h
    exact ⟨x, snap_mono hx, y, snaps_mono hy, h⟩
theorem load_mono {os outs : List (Ob RT den)} {t : Nat} {p d : D RT den} (h : load E os t p = some d) : load E (os ++ outs) t p = some d := by
  simp only [load, Option.bind_eq_some_iff] at h ⊢
  obtain ⟨cs, hcs, h⟩ := h
  refine ⟨cs, ?_, h⟩
  cases p with
  | ref o off =>
    simp only [cellsAt] at hcs ⊢
    split at hcs
    · rename_i hob
      rw [obj_mono hob (by simp)]; exact hcs
    · cases hcs
  | eref o sz j off =>
    simp only [cellsAt] at hcs ⊢
    split at hcs
    · rename_i hob
      rw [obj_mono hob (by simp)]; exact hcs
    · cases hcs
  | rptr cs' => simp only [cellsAt] at hcs ⊢; exact hcs
  | _ => simp [cellsAt] at hcs

/-- Does an operation's value not look at the objects? -/
def noObj : Op → Bool
  | .load .. | .call { callee := .value _, .. } => false
  | _ => true
theorem noobj_val {pc : Nat → List (D RT den) → Option (D RT den)} {s s' : St RT den} {al ty : Nat} {op : Op} (hb : noObj op = true) (h : ∀ t x, x ∈ op.operands.toList → E.ev s t x = E.ev s' t x) : val E pc s al ty op = val E pc s' al ty op := by
  cases op
  case move x => unfold val; dsimp only; rw [h _ x (by simp [Op.operands])]
  case assign x => unfold val; dsimp only; rw [h _ x (by simp [Op.operands])]
  case pick c x y => unfold val; dsimp only; rw [h 0 c (by simp [Op.operands]), h ty x (by simp [Op.operands]), h ty y (by simp [Op.operands])]
  case alloc t => rfl
  case load t x => cases hb
  case nilCheck x => unfold val; dsimp only; rw [h _ x (by simp [Op.operands])]
  case binOp op t x y yt => unfold val; dsimp only; rw [h 0 x (by simp [Op.operands]), h 0 y (by simp [Op.operands]), h t x (by simp [Op.operands]), h t y (by simp [Op.operands])]
  case unOp op t x => unfold val; dsimp only; rw [h _ x (by simp [Op.operands])]
  case fieldAddr t x f => unfold val; dsimp only; rw [h _ x (by simp [Op.operands])]
  case field t x f => unfold val; dsimp only; rw [h _ x (by simp [Op.operands])]
  case extract x i => unfold val; dsimp only; rw [h _ x (by simp [Op.operands])]
  case convert s d x => unfold val; dsimp only; rw [h _ x (by simp [Op.operands])]
  case makeFunc fn first caps =>
    cases fn <;> try rfl
    unfold val; dsimp only
    rw [List.map_congr_left (fun x hx => h 0 x (by simp [Op.operands]; exact .inr (by simpa using hx)))]
  case slice t x lo hi mx =>
    cases mx with
    | some m => rfl
    | none =>
      unfold val; dsimp only
      rw [h _ x (by simp [Op.operands])]
      cases lo <;> cases hi <;> dsimp only
      · rw [h _ _ (by simp [Op.operands])]
      · rw [h _ _ (by simp [Op.operands])]
      · rename_i l r
        rw [h 0 l (by simp [Op.operands]), h 0 r (by simp [Op.operands])]
  case indexAddr t x y => unfold val; dsimp only; rw [h _ x (by simp [Op.operands]), h _ y (by simp [Op.operands])]
  case call c =>
    obtain ⟨callee, args, argTypes⟩ := c
    cases callee with
    | value f => cases hb
    | invoke f m => rfl
    | builtin b =>
      have hm : args.toList.map (E.ev s 0) = args.toList.map (E.ev s' 0) := List.map_congr_left (fun x hx => h 0 x (by simp [Op.operands, Call.operands]; simpa using hx))
      cases b <;> try rfl
      case max => unfold val; dsimp only; rw [hm]
      case min => unfold val; dsimp only; rw [hm]
      unfold val; dsimp only
      split
      · rename_i x t hx ht
        rw [h 0 x (by simp [Op.operands, Call.operands, hx])]
      · rfl
  case build t ps =>
    unfold val; dsimp only
    congr 1
    congr 1; funext cs
    rw [fields_congr t ps.toList cs (fun u x hx => h u x (by simpa [Op.operands] using hx))]
  case buildSlice t len ps =>
    unfold val; dsimp only
    congr 1; funext e
    congr 1; funext τ
    congr 1; funext z
    congr 1; funext zc
    split
    · split
      · rfl
      · rw [elems_congr τ ps.toList 0 (fun u x hx => h u x (by simpa [Op.operands] using hx))]
    · rfl
  all_goals rfl
theorem val_mono {pc : Nat → List (D RT den) → Option (D RT den)} {s s' : St RT den} {outs : List (Ob RT den)} {al ty : Nat} {op : Op} {d : D RT den} (ho : s'.objs = s.objs ++ outs) (h : ∀ t x, x ∈ op.operands.toList → E.ev s t x = E.ev s' t x) (hv : val E pc s al ty op = some d) : val E pc s' al ty op = some d := by
  by_cases hb : noObj op = true
  · rw [← noobj_val hb h]; exact hv
  · cases op <;> try (exact absurd rfl hb)
    case load t x =>
      unfold val at hv ⊢
      dsimp only at hv ⊢
      rw [← h _ x (by simp [Op.operands]), ho]
      exact load_mono hv
    case call c =>
      obtain ⟨callee, args, argTypes⟩ := c
      cases callee <;> try (exact absurd rfl hb)
      rename_i f
      unfold val at hv ⊢
      dsimp only at hv ⊢
      rw [← h 0 f (by simp [Op.operands, Call.operands]), ho]
      split at hv
      · rename_i f' cap hf
        rw [← args_congr _ _ (fun u x hx => h u x (by simp only [Op.operands, Call.operands, Array.toList_append, List.mem_append]; exact .inr hx))]
        simp only [evCall, Option.bind_eq_some_iff] at hv ⊢
        obtain ⟨ys, hys, hv⟩ := hv
        exact ⟨ys, snaps_mono hys, hv⟩
      · cases hv

/-- What an operation makes that makes or turns an object. -/
def turn (E : Env RT den) (pc : Pr RT den) (s : St RT den) (ty : Nat) (op : Op) : Option (D RT den × List (Ob RT den)) :=
  match xOf pc.has op with
  | some (f, xs) => callX E pc s.objs f (E.args s (E.par f) xs)
  | none => eff E s ty op

theorem xOf_call {has : Nat → Bool} {op : Op} {f : Nat} {xs : List Operand} (h : xOf has op = some (f, xs)) : ∃ (args : Array Operand) (argTypes : Array TypeId), op = .call ⟨.value (.func f), args, argTypes⟩ ∧ xs = args.toList := by
  cases op <;> try (cases h; done)
  rename_i c
  obtain ⟨callee, args, argTypes⟩ := c
  cases callee <;> try (cases h; done)
  rename_i g
  cases g <;> try (cases h; done)
  rename_i g
  simp only [xOf] at h
  cases hh : has g <;> rw [hh] at h <;> simp only [cond_true, cond_false, reduceCtorEq, Option.some.injEq, Prod.mk.injEq] at h
  obtain ⟨rfl, rfl⟩ := h
  exact ⟨_, _, rfl, rfl⟩

theorem turn_congr {pc : Pr RT den} {s s' : St RT den} {ty : Nat} {op : Op} (hb : isTurn pc.has op = true) (ho : s.objs = s'.objs) (h : ∀ t x, x ∈ op.operands.toList → E.ev s t x = E.ev s' t x) : turn E pc s ty op = turn E pc s' ty op := by
  unfold turn
  cases hx : xOf pc.has op with
  | some fx =>
    obtain ⟨f, xs⟩ := fx
    obtain ⟨args, argTypes, rfl, rfl⟩ := xOf_call hx
    dsimp only
    rw [ho, args_congr _ _ (fun u x hx => h u x (by simp only [Op.operands, Call.operands, Array.toList_append, List.mem_append]; exact .inr hx))]
  | none =>
    dsimp only
    cases op <;> try (simp [isTurn, xOf] at hb; done)
    case store t a x => unfold eff; dsimp only; rw [h _ x (by simp [Op.operands]), h _ a (by simp [Op.operands]), ho]
    case box t x => unfold eff; dsimp only; rw [h _ x (by simp [Op.operands]), ho]
    case makeSlice t l c => unfold eff; dsimp only; rw [h _ l (by simp [Op.operands]), h _ c (by simp [Op.operands]), ho]
    case call c =>
      simp only [isTurn, hx] at hb
      cases hb

theorem doOp_turn {pc : Pr RT den} {o : Oper} {al : Nat} {s : St RT den} (h : isTurn pc.has o.op = true) : doOp E pc o al s = (turn E pc s o.type o.op).bind fun r => some (({ s with objs := r.2 } : St RT den).put o.dst r.1) := by
  unfold doOp turn
  cases hx : xOf pc.has o.op with
  | some fx => rfl
  | none =>
    obtain ⟨dst, op, ty, pos, after, guard⟩ := o
    dsimp only at h hx ⊢
    cases op <;> first | rfl | (simp [isTurn, xOf] at h; done) | skip
    case call c =>
      simp only [isTurn, hx] at h
      cases h

theorem calm_x {has : Nat → Bool} {op : Op} (h : calm has op = true) : still op = true ∧ xOf has op = none := by
  simp only [calm, Bool.and_eq_true, Option.isNone_iff_eq_none] at h; exact h

theorem bareVal_congr {pc : Nat → List (D RT den) → Option (D RT den)} {ops : Array Oper} {p : Oper × Nat} {s s' : St RT den} (hb : bare p.1.op = true) (h : ∀ t ∈ p.1.looksAt ops, s.get t = s'.get t) : stepVal E pc ops p s = stepVal E pc ops p s' := by
  have hval : val E pc s p.2 p.1.type p.1.op = val E pc s' p.2 p.1.type p.1.op := bare_val hb (fun u x hx => ev_congr h u x (fun t e => looksAt_op (by subst e; exact hx)))
  unfold stepVal
  split
  · exact hval
  · rename_i j want hg
    split
    · rename_i t ht
      have hm : t ∈ p.1.looksAt ops := by
        simp only [Oper.looksAt, hg, List.mem_append]
        right
        unfold dstOf at ht
        simp [ht]
      rw [h t hm, hval]
    · rfl

/-- What a step that makes or turns an object leaves. -/
def stepEff (E : Env RT den) (pc : Pr RT den) (ops : Array Oper) (p : Oper × Nat) (s : St RT den) : Option (D RT den × List (Ob RT den)) :=
  match p.1.guard with
  | none => turn E pc s p.1.type p.1.op
  | some (j, want) =>
    match dstOf ops j with
    | some t =>
      match s.get t with
      | .bool g => bif g == want then turn E pc s p.1.type p.1.op else some (.undef, s.objs)
      | .undef => some (.undef, s.objs)
      | _ => none
    | none => none

theorem stepOp_store {pc : Pr RT den} {ops : Array Oper} {p : Oper × Nat} {s : St RT den} (h : isTurn pc.has p.1.op = true) : stepOp E pc ops p s = (stepEff E pc ops p s).bind fun r => some (({ s with objs := r.2 } : St RT den).put p.1.dst r.1) := by
  have hd : ∀ s : St RT den, doOp E pc p.1 p.2 s = _ := fun s => doOp_turn (E := E) (s := s) h
  unfold stepOp stepEff
  split
  · exact hd s
  · split
    · rename_i j want hg _ t ht
      split
      · rename_i g hgt
        cases hw : (g == want) with
        | true => exact hd s
        | false => simp
      · rfl
      · rfl
    · rfl

theorem stepEff_congr {pc : Pr RT den} {ops : Array Oper} {p : Oper × Nat} {s s' : St RT den} (hb : isTurn pc.has p.1.op = true) (ho : s.objs = s'.objs) (h : ∀ t ∈ p.1.looksAt ops, s.get t = s'.get t) : stepEff E pc ops p s = stepEff E pc ops p s' := by
  have hval : turn E pc s p.1.type p.1.op = turn E pc s' p.1.type p.1.op := turn_congr hb ho (fun u x hx => ev_congr h u x (fun t e => looksAt_op (by subst e; exact hx)))
  unfold stepEff
  split
  · exact hval
  · rename_i j want hg
    split
    · rename_i t ht
      have hm : t ∈ p.1.looksAt ops := by
        simp only [Oper.looksAt, hg, List.mem_append]
        right
        unfold dstOf at ht
        simp [ht]
      rw [h t hm, hval, ho]
    · rfl

theorem put_with {s : St RT den} {d : Option Nat} {x : D RT den} {os : List (Ob RT den)} : ({ s.put d x with objs := os } : St RT den) = ({ s with objs := os } : St RT den).put d x := by cases d <;> rfl

theorem grows_turn {has lend : Nat → Bool} {op : Op} (h : grows has lend op = true) : isTurn has op = true := by
  cases op <;> first | rfl | skip
  case call c =>
    simp only [grows] at h
    simp only [isTurn]
    split at h
    · rename_i hx; rw [hx]; rfl
    · cases h
  all_goals (simp only [grows, xOf] at h; cases h)
theorem turn_grows {pc : Pr RT den} {s : St RT den} {ty : Nat} {op : Op} (h : grows pc.has pc.lend op = true) {r : D RT den × List (Ob RT den)} (hr : turn E pc s ty op = some r) : ∃ outs, r.2 = s.objs ++ outs := by
  unfold turn at hr
  split at hr
  · rename_i f xs hx
    have hl : pc.lend f = false := by
      obtain ⟨args, argTypes, rfl, rfl⟩ := xOf_call hx
      simp only [grows, hx, Bool.not_eq_true'] at h
      exact h
    simp only [callX, Option.bind_eq_some_iff] at hr
    obtain ⟨⟨ys, ins, ids⟩, hy, x, hx2, hv⟩ := hr
    rw [hl] at hv
    simp only [backX] at hv
    cases hq : x.1.hs && x.2.all (Ob.flat E) with
    | false => rw [hq] at hv; cases hv
    | true =>
      rw [hq] at hv
      simp only [cond_true, Option.some.injEq] at hv
      subst hv
      exact ⟨_, rfl⟩
  · rename_i hx
    cases op <;> try (simp only [grows, xOf] at h; cases h; done)
    case call c => simp only [grows, hx] at h; cases h
    case box t x =>
      unfold eff at hr
      dsimp only at hr
      cases hq : (E.ev s t x).cells.all D.flat with
      | false => simp [hq] at hr
      | true => simp only [hq, cond_true, Option.some.injEq] at hr; subst hr; exact ⟨_, rfl⟩
    case makeSlice t l c =>
      unfold eff at hr
      dsimp only at hr
      simp only [Option.bind_eq_some_iff] at hr
      obtain ⟨e, he, by', hby, τ, hτ, zc, hzc, y, hy, hr⟩ := hr
      split at hr
      · split at hr
        · have hr := Option.some.inj hr; subst hr; exact ⟨_, rfl⟩
        · simp at hr
      · simp at hr

theorem stepEff_grows {pc : Pr RT den} {ops : Array Oper} {p : Oper × Nat} {s : St RT den} (h : grows pc.has pc.lend p.1.op = true) {r : D RT den × List (Ob RT den)} (hr : stepEff E pc ops p s = some r) : ∃ outs, r.2 = s.objs ++ outs := by
  unfold stepEff at hr
  split at hr
  · exact turn_grows h hr
  · rename_i j want hgd
    split at hr
    · split at hr
      · rename_i g hgt
        cases hw : (g == want) with
        | true => rw [hw] at hr; exact turn_grows h hr
        | false => rw [hw] at hr; simp only [cond_false, Option.some.injEq] at hr; subst hr; exact ⟨[], by simp⟩
      · simp only [Option.some.injEq] at hr; subst hr; exact ⟨[], by simp⟩
      · cases hr
    · cases hr

theorem stepVal_mono {pc : Nat → List (D RT den) → Option (D RT den)} {ops : Array Oper} {p : Oper × Nat} {s s' : St RT den} {outs : List (Ob RT den)} {d : D RT den} (ho : s'.objs = s.objs ++ outs) (h : ∀ t ∈ p.1.looksAt ops, s.get t = s'.get t) (hv : stepVal E pc ops p s = some d) : stepVal E pc ops p s' = some d := by
  have hval : ∀ d, val E pc s p.2 p.1.type p.1.op = some d → val E pc s' p.2 p.1.type p.1.op = some d := fun d hd => val_mono ho (fun u x hx => ev_congr h u x (fun t e => looksAt_op (by subst e; exact hx))) hd
  unfold stepVal at hv ⊢
  cases hg : p.1.guard with
  | none => rw [hg] at hv; exact hval d hv
  | some jw =>
    obtain ⟨j, want⟩ := jw
    rw [hg] at hv
    dsimp only at hv ⊢
    cases ht : dstOf ops j with
    | none => rw [ht] at hv; cases hv
    | some t =>
      rw [ht] at hv
      dsimp only at hv ⊢
      have hm : t ∈ p.1.looksAt ops := by
        simp only [Oper.looksAt, hg, List.mem_append]
        right
        unfold dstOf at ht
        simp [ht]
      rw [← h t hm]
      split at hv
      · rename_i g hgt
        cases hw : (g == want) with
        | true => rw [hw] at hv; exact hval d hv
        | false => rw [hw] at hv; exact hv
      · exact hv
      · cases hv

/-- Two steps that turn no object, changed. -/
theorem step_swap0 {pc : Pr RT den} {ops : Array Oper} {p q : Oper × Nat} {s s1 s2 : St RT den} (hsw : (calm pc.has p.1.op && calm pc.has q.1.op && p.1.apart ops q.1) = true) (h1 : stepOp E pc ops p s = some s1) (h2 : stepOp E pc ops q s1 = some s2) :
    ∃ s1', stepOp E pc ops q s = some s1' ∧ stepOp E pc ops p s1' = some s2 := by
  simp only [Bool.and_eq_true] at hsw
  obtain ⟨⟨hp, hq⟩, hap⟩ := hsw
  obtain ⟨a1, a2, a3⟩ := Oper.apart_spec hap
  rw [stepOp_still hp, Option.bind_eq_some_iff] at h1
  rw [stepOp_still hq, Option.bind_eq_some_iff] at h2
  obtain ⟨d1, v1, e1⟩ := h1
  obtain ⟨d2, v2, e2⟩ := h2
  have e1 := Option.some.inj e1
  have e2 := Option.some.inj e2
  subst e1; subst e2
  have c2 : stepVal E pc.fn ops q s = some d2 := by
    rw [← v2]
    refine stepVal_congr put_objs.symm (fun t ht => ?_)
    cases hd : p.1.dst with
    | none => rfl
    | some d => exact (get_put (fun e => a1 d hd (by rw [← e]; exact ht))).symm
  have c1 : stepVal E pc.fn ops p (s.put q.1.dst d2) = some d1 := by
    rw [← v1]
    refine stepVal_congr put_objs (fun t ht => ?_)
    cases hd : q.1.dst with
    | none => rfl
    | some d => exact get_put (fun e => a3 d hd (by rw [← e]; exact ht))
  refine ⟨s.put q.1.dst d2, by rw [stepOp_still hq, c2]; rfl, ?_⟩
  rw [stepOp_still hp, c1]
  simp only [Option.bind_some, Option.some.injEq]
  exact (put_comm a2).symm

/-- The slots that a region does not write, and that hold ways to frozen cells. -/
def Fz (ops : Array Oper) (fz : Nat → Bool) (s : St RT den) : Prop := ∀ t, fz t = true → (∀ o ∈ ops.toList, o.dst ≠ some t) ∧ ∃ cs, s.get t = .rptr cs

theorem fzOf_fz (ops : Array Oper) (s : St RT den) (l : List (Ob RT den)) : Fz ops (fzOf ops s) ({ s with objs := l } : St RT den) := by
  intro t ht
  simp only [fzOf, Bool.and_eq_true, List.all_eq_true, bne_iff_ne, ne_eq] at ht
  refine ⟨ht.2, ?_⟩
  have h1 := ht.1
  show ∃ cs, s.get t = .rptr cs
  cases hq : s.get t <;> rw [hq] at h1 <;> first | exact ⟨_, rfl⟩ | cases h1

theorem get_kill {s : St RT den} {v : Option Nat} {t : Nat} {cs : List (D RT den)} (h : s.get t = .rptr cs) : (s.kill v).get t = .rptr cs := by
  cases v with
  | none => exact h
  | some o =>
    simp only [St.get, St.kill, List.getD_eq_getElem?_getD, List.getElem?_map] at h ⊢
    cases hq : s.slots[t]? with
    | none => rw [hq] at h; cases h
    | some d =>
      rw [hq] at h
      simp only [Option.getD_some] at h
      subst h
      rfl

theorem Fz.step {ops : Array Oper} {fz : Nat → Bool} {pc : Pr RT den} {p : Oper × Nat} {s s' : St RT den} (h : Fz ops fz s) (hp : p.1 ∈ ops.toList) (hs : stepOp E pc ops p s = some s') : Fz ops fz s' := by
  intro t ht
  obtain ⟨h1, cs, h2⟩ := h t ht
  refine ⟨h1, cs, ?_⟩
  have hne := h1 p.1 hp
  have put : ∀ (s0 : St RT den) (d : D RT den), s0.get t = .rptr cs → (s0.put p.1.dst d).get t = .rptr cs := by
    intro s0 d h0
    cases hd : p.1.dst with
    | none => exact h0
    | some i => rw [get_put (fun e => hne (by rw [hd, e]))]; exact h0
  have op : ∀ {s0 s1 : St RT den}, s0.get t = .rptr cs → doOp E pc p.1 p.2 s0 = some s1 → s1.get t = .rptr cs := by
    intro s0 s1 h0 hd
    unfold doOp at hd
    split at hd
    · simp only [Option.bind_eq_some_iff, Option.some.injEq] at hd
      obtain ⟨r, _, rfl⟩ := hd
      exact put _ _ h0
    · cases hst : still p.1.op with
      | true =>
        rw [hst] at hd
        simp only [cond_true, Option.bind_eq_some_iff, Option.some.injEq] at hd
        obtain ⟨r, _, rfl⟩ := hd
        exact put _ _ h0
      | false =>
        rw [hst] at hd
        simp only [cond_false, Option.bind_eq_some_iff, Option.some.injEq] at hd
        obtain ⟨r, _, rfl⟩ := hd
        exact put _ _ (get_kill h0)
  unfold stepOp at hs
  split at hs
  · exact op h2 hs
  · split at hs
    · split at hs
      · rename_i g hg
        cases hgw : (g == _) with
        | true => rw [hgw] at hs; exact op h2 hs
        | false => rw [hgw] at hs; have hs := Option.some.inj hs; subst hs; exact put _ _ h2
      · have hs := Option.some.inj hs; subst hs; exact put _ _ h2
      · cases hs
    · cases hs

theorem fz_calm {has : Nat → Bool} {fz : Nat → Bool} {op : Op} (h : fzLoad fz op = true) : calm has op = true := by
  cases op <;> first | rfl | (simp [fzLoad] at h; done)

theorem fzVal_congr {pc : Nat → List (D RT den) → Option (D RT den)} {ops : Array Oper} {fz : Nat → Bool} {p : Oper × Nat} {s s' : St RT den} (hf : Fz ops fz s) (hb : fzLoad fz p.1.op = true) (h : ∀ t ∈ p.1.looksAt ops, s.get t = s'.get t) : stepVal E pc ops p s = stepVal E pc ops p s' := by
  have hval : val E pc s p.2 p.1.type p.1.op = val E pc s' p.2 p.1.type p.1.op := by
    have hl := fun t (ht : Operand.tmp t ∈ p.1.op.operands.toList) => h t (looksAt_op ht)
    cases hop : p.1.op <;> rw [hop] at hb hl <;> try (simp [fzLoad] at hb; done)
    rename_i ty x
    cases x <;> try (simp [fzLoad] at hb; done)
    rename_i t
    obtain ⟨_, cs, hcs⟩ := hf t hb
    have hcs' : s'.get t = .rptr cs := by rw [← hl t (by simp [Op.operands])]; exact hcs
    simp only [val, Env.ev, hcs, hcs', load, cellsAt]
  unfold stepVal
  split
  · exact hval
  · rename_i j want hg
    split
    · rename_i t ht
      have hm : t ∈ p.1.looksAt ops := by
        simp only [Oper.looksAt, hg, List.mem_append]
        right
        unfold dstOf at ht
        simp [ht]
      rw [h t hm, hval]
    · rfl

theorem bf_congr {pc : Nat → List (D RT den) → Option (D RT den)} {ops : Array Oper} {fz : Nat → Bool} {p : Oper × Nat} {s s' : St RT den} (hf : Fz ops fz s) (hb : (bare p.1.op || fzLoad fz p.1.op) = true) (h : ∀ t ∈ p.1.looksAt ops, s.get t = s'.get t) : stepVal E pc ops p s = stepVal E pc ops p s' := by
  rcases Bool.or_eq_true _ _ ▸ hb with hb | hb
  · exact bareVal_congr hb h
  · exact fzVal_congr hf hb h

theorem bf_calm {has : Nat → Bool} {fz : Nat → Bool} {op : Op} (h : (bare op || fzLoad fz op) = true) : calm has op = true := by
  rcases Bool.or_eq_true _ _ ▸ h with h | h
  · exact bare_calm h
  · exact fz_calm h

/-- Two steps that may change places, changed. -/
theorem step_swap {pc : Pr RT den} {ops : Array Oper} {fz : Nat → Bool} {p q : Oper × Nat} {s s1 s2 : St RT den} (hf : Fz ops fz s) (hsw : swaps pc.has pc.lend fz ops p.1 q.1 = true) (h1 : stepOp E pc ops p s = some s1) (h2 : stepOp E pc ops q s1 = some s2) :
    ∃ s1', stepOp E pc ops q s = some s1' ∧ stepOp E pc ops p s1' = some s2 := by
  unfold swaps at hsw
  rw [Bool.and_eq_true, Bool.or_eq_true, Bool.or_eq_true, Bool.or_eq_true, Bool.and_eq_true, Bool.and_eq_true, Bool.and_eq_true, Bool.and_eq_true] at hsw
  obtain ⟨hc, hap⟩ := hsw
  obtain ⟨a1, a2, a3⟩ := Oper.apart_spec hap
  rcases hc with ((⟨hp, hq⟩ | ⟨hp, hq⟩) | ⟨hp, hq⟩) | ⟨hp, hg⟩
  · exact step_swap0 (by simp [hp, hq, hap]) h1 h2
  · rw [stepOp_still (bf_calm hp), Option.bind_eq_some_iff] at h1
    rw [stepOp_store hq, Option.bind_eq_some_iff] at h2
    obtain ⟨d1, v1, e1⟩ := h1
    obtain ⟨r, v2, e2⟩ := h2
    have e1 := Option.some.inj e1
    have e2 := Option.some.inj e2
    subst e1; subst e2
    have c2 : stepEff E pc ops q s = some r := by
      rw [← v2]
      refine stepEff_congr hq put_objs.symm (fun t ht => ?_)
      cases hd : p.1.dst with
      | none => rfl
      | some d => exact (get_put (fun e => a1 d hd (by rw [← e]; exact ht))).symm
    have c1 : stepVal E pc.fn ops p (({ s with objs := r.2 } : St RT den).put q.1.dst r.1) = some d1 := by
      rw [← v1]
      refine (bf_congr hf hp (fun t ht => Eq.symm ?_)).symm
      cases hd : q.1.dst with
      | none => rfl
      | some d => exact get_put (s := ({ s with objs := r.2 } : St RT den)) (fun e => a3 d hd (by rw [← e]; exact ht))
    refine ⟨({ s with objs := r.2 } : St RT den).put q.1.dst r.1, by rw [stepOp_store hq, c2]; rfl, ?_⟩
    rw [stepOp_still (bf_calm hp), c1, put_with]
    simp only [Option.bind_some, Option.some.injEq]
    exact (put_comm a2).symm
  · rw [stepOp_store hp, Option.bind_eq_some_iff] at h1
    rw [stepOp_still (bf_calm hq), Option.bind_eq_some_iff] at h2
    obtain ⟨r, v1, e1⟩ := h1
    obtain ⟨d2, v2, e2⟩ := h2
    have e1 := Option.some.inj e1
    have e2 := Option.some.inj e2
    subst e1; subst e2
    have c2 : stepVal E pc.fn ops q s = some d2 := by
      rw [← v2]
      refine bf_congr hf hq (fun t ht => ?_)
      cases hd : p.1.dst with
      | none => rfl
      | some d => exact (get_put (s := ({ s with objs := r.2 } : St RT den)) (fun e => a1 d hd (by rw [← e]; exact ht))).symm
    have c1 : stepEff E pc ops p (s.put q.1.dst d2) = some r := by
      rw [← v1]
      refine stepEff_congr hp put_objs (fun t ht => ?_)
      cases hd : q.1.dst with
      | none => rfl
      | some d => exact get_put (fun e => a3 d hd (by rw [← e]; exact ht))
    refine ⟨s.put q.1.dst d2, by rw [stepOp_still (bf_calm hq), c2]; rfl, ?_⟩
    rw [stepOp_store hp, c1]
    simp only [Option.bind_some, Option.some.injEq]
    rw [put_with]
    exact (put_comm a2).symm
  · have hq := grows_turn hg
    rw [stepOp_still hp, Option.bind_eq_some_iff] at h1
    rw [stepOp_store hq, Option.bind_eq_some_iff] at h2
    obtain ⟨d1, v1, e1⟩ := h1
    obtain ⟨r, v2, e2⟩ := h2
    have e1 := Option.some.inj e1
    have e2 := Option.some.inj e2
    subst e1; subst e2
    have c2 : stepEff E pc ops q s = some r := by
      rw [← v2]
      refine stepEff_congr hq put_objs.symm (fun t ht => ?_)
      cases hd : p.1.dst with
      | none => rfl
      | some d => exact (get_put (fun e => a1 d hd (by rw [← e]; exact ht))).symm
    obtain ⟨outs, hos⟩ := stepEff_grows hg c2
    have c1 : stepVal E pc.fn ops p (({ s with objs := r.2 } : St RT den).put q.1.dst r.1) = some d1 := by
      refine stepVal_mono (s := s) (outs := outs) (by rw [put_objs]; exact hos) (fun t ht => ?_) v1
      cases hd : q.1.dst with
      | none => rfl
      | some d => exact (get_put (s := ({ s with objs := r.2 } : St RT den)) (fun e => a3 d hd (by rw [← e]; exact ht))).symm
    refine ⟨({ s with objs := r.2 } : St RT den).put q.1.dst r.1, by rw [stepOp_store hq, c2]; rfl, ?_⟩
    rw [stepOp_still hp, c1, put_with]
    simp only [Option.bind_some, Option.some.injEq]
    exact (put_comm a2).symm

end Go.Proofs.Ytokpamekcpbkaaa.Vm
