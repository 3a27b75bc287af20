
/- The value machine: one step of a region; what two steps look at; steps that change places. Conditions: none. -/
import Derived.Test.YtcmfekgdlaffkaaVmX
namespace Go.Proofs.Ytcmfekgdlaffkaa.Vm
open Go Go.RowKit
set_option linter.unusedVariables false
set_option linter.unusedSimpArgs false
variable {RT : Type} {den : RT → Type} {E : Env RT den} {P : Program}
section
variable (E : Env RT den) (pc : Pr RT den)
def doOp (o : Oper) (al : Nat) (s : St RT den) : Option (St RT den) :=
 match xOf pc.has o.op with
 | some (f, xs) => (callX E pc s.objs f (E.args s (E.par f) xs)).bind fun r => some (({ s with objs := r.2 } : St RT den).put o.dst r.1)
 | none => match xOf pc.gv o.op with
 | some (f, xs) => (callG E pc s.objs f (E.args s (E.par f) xs)).bind fun r => some ((({ s with objs := r.2.2 } : St RT den).kill r.1).put o.dst r.2.1)
 | none => bif still o.op then (val E pc.fn s al o.type o.op).bind fun d => some (s.put o.dst d)
  else (eff E s o.type o.op).bind fun r => some ((({ s with objs := r.2 } : St RT den).kill (victim E s o.op)).put o.dst r.1)
def stepOp (ops : Array Oper) (p : Oper × Nat) (s : St RT den) : Option (St RT den) :=
 match p.1.guard with
 | none => doOp E pc p.1 p.2 s
 | some (j, want) =>
  match dstOf ops j with
  | some t =>
   match s.get t with
   | .bool g => bif g == want then doOp E pc p.1 p.2 s else some (s.put p.1.dst .undef)
   | .undef => some (s.put p.1.dst .undef)
   | _ => none
  | none => none
def runOps (ops : Array Oper) : List (Oper × Nat) → St RT den → Option (St RT den)
 | [], s => some s
 | p :: l, s => (stepOp E pc ops p s).bind (runOps ops l)
end
theorem put_same {s : St RT den} {t : Nat} {d : D RT den} (h : s.get t = d) (hd : d ≠ .undef) : s.put (some t) d = s := by
 unfold St.put
 have : s.slots.set t d = s.slots := by
  apply List.ext_getElem?
  intro i
  rw [List.getElem?_set]
  split
  ·rename_i e; subst e
   split
   ·rename_i hl
    unfold St.get at h
    rw [List.getD_eq_getElem?_getD, List.getElem?_eq_getElem hl] at h
    simp at h
    rw [List.getElem?_eq_getElem hl, h]
   ·rename_i hl
    rw [List.getElem?_eq_none (by omega)]
  ·rfl
 simp only [this]
theorem ret_run {d d' : D RT den} (h : (Out.ret d).run = some d') : d = d' := by simpa [Out.ret, Out.run] using h
theorem chk_run {c : Bool} {d d' : D RT den} (h : (Out.chk c d).run = some d') : c = true ∧ d = d' := by cases c <;> simp_all [Out.chk, Out.run]
theorem valO_run {pc : Pc RT den} {s : St RT den} {al ty : Nat} {op : Op} {u : Out RT den} {d : D RT den} (h : valO E pc s al ty op = some u) (hd : u.run = some d) : val E pc.run.fn s al ty op = some d := by
 have triv : ∀ {v : Option (D RT den)}, (v.bind fun d => some (Out.ret d)) = some u → v = some d := by
  intro v hv
  simp only [Option.bind_eq_some_iff] at hv
  obtain ⟨d', h1, h2⟩ := hv
  have h2 := Option.some.inj h2; subst h2
  rw [h1, ret_run hd]
 cases op
 case indexAddr t x i =>
  unfold valO at h; unfold val
  simp only [Option.bind_eq_some_iff] at h ⊢
  obtain ⟨e, he, z, hz, h⟩ := h
  refine ⟨e, he, z, hz, ?_⟩
  generalize E.ev s 0 x = dx at h ⊢
  generalize E.ev s 0 i = di at h ⊢
  split at h
  ·rename_i z' τ n f k m
   split at h
   ·rename_i hzs
    have h := Option.some.inj h; subst h
    obtain ⟨h1, h2⟩ := chk_run hd
    simp only [Bool.and_eq_true, decide_eq_true_eq] at h1
    dsimp only
    rw [if_pos ⟨hzs, h1⟩, h2]
   ·simp at h
  ·rename_i o len k m
   have h := Option.some.inj h; subst h
   obtain ⟨h1, h2⟩ := chk_run hd
   simp only [Bool.and_eq_true, decide_eq_true_eq] at h1
   dsimp only
   rw [if_pos h1, h2]
  ·have h := Option.some.inj h; subst h
   have := (chk_run hd).1
   simp at this
  ·simp at h
 case binOp op t x y yt =>
  unfold valO at h
  dsimp only at h
  split at h
  ·simp only [Option.bind_eq_some_iff] at h
   obtain ⟨r, hr, h⟩ := h
   have h := Option.some.inj h; subst h
   obtain ⟨h1, h2⟩ := chk_run hd
   simp [val, hr, h1, h2]
  ·simp only [Option.bind_eq_some_iff] at h
   obtain ⟨r, hr, h⟩ := h
   have h := Option.some.inj h; subst h
   obtain ⟨h1, h2⟩ := chk_run hd
   simp [val, hr, h1, h2]
  split at h
  ·rename_i z τ n f τ' hx hy
   simp only [Option.bind_eq_some_iff] at h
   obtain ⟨e, he, h⟩ := h
   cases op <;> simp only [reduceCtorEq, Option.some.injEq] at h <;> (subst h; simp only [Out.run, Option.bind_eq_some_iff, cond_true, Option.some.injEq] at hd; obtain ⟨b, hb, rfl⟩ := hd; simp [val, hx, hy, binOp, he, hb])
  ·rename_i k m k' m' hx hy
   split at h
   ·rename_i hk
    subst hk
    split at h
    ·have h := Option.some.inj h; subst h
     obtain ⟨h1, h2⟩ := chk_run hd
     simp only [Bool.not_eq_true', decide_eq_false_iff_not] at h1
     simp [val, hx, hy, binOp, intOp, h1, h2]
    ·have h := Option.some.inj h; subst h
     obtain ⟨h1, h2⟩ := chk_run hd
     simp only [Bool.not_eq_true', decide_eq_false_iff_not] at h1
     simp [val, hx, hy, binOp, intOp, h1, h2]
    ·exact triv h
   ·simp at h
  ·rename_i c c' hx hy
   split at h
   ·have h := Option.some.inj h; subst h
    obtain ⟨h1, h2⟩ := chk_run hd
    simp only [Bool.and_eq_true] at h1
    simp [val, hx, hy, binOp, h1.1, h1.2, h2]
   ·exact triv h
  ·exact triv h
 case call c =>
  obtain ⟨callee, args, argTypes⟩ := c
  cases callee with
  | value f =>
   unfold valO at h; unfold val
   dsimp only at h ⊢
   split at h
   ·rename_i f' cap hf
    simp only [Option.bind_eq_some_iff] at h
    obtain ⟨ys, hys, o, ho, h⟩ := h
    have h := Option.some.inj h; subst h
    simp only [Out.run, Option.bind_eq_some_iff] at hd
    obtain ⟨y, hy, hd⟩ := hd
    cases hq : (o.ok (o.g y) && (!((E.args s (E.par f') args.toList ++ cap).any D.own) && (o.g y).pures || (o.g y).scalar)) with
    | false => rw [hq] at hd; simp at hd
    | true =>
     rw [hq] at hd
     have hd := Option.some.inj hd; subst hd
     simp only [Bool.and_eq_true] at hq
     have hrun : pc.run.fn f' ys = some (o.g y) := by simp [Pc.run, ho, Out.run, hy, hq.1]
     simp only [evCall, hys, Option.bind_some, hrun]
     rw [hq.2]; rfl
   ·simp at h
  | invoke f m => exact triv h
  | builtin b => exact triv h
 case slice t x lo hi mx =>
  cases mx with
  | some m => exact triv h
  | none =>
   unfold valO at h; unfold val
   simp only [Option.bind_eq_some_iff] at h ⊢
   obtain ⟨e, he, z, hz, n, hn, r, hr, h⟩ := h
   have h := Option.some.inj h; subst h
   obtain ⟨h1, h2⟩ := chk_run hd
   exact ⟨e, he, z, hz, n, hn, r, hr, by rw [h1, h2]; rfl⟩
 case load t x =>
  unfold valO at h; unfold val
  dsimp only at h ⊢
  split at h
  ·rename_i d' hl
   have h := Option.some.inj h; subst h
   have := ret_run hd; subst this
   rfl
  ·rename_i hl
   simp only [Option.bind_eq_some_iff] at h
   obtain ⟨r, hr, h⟩ := h
   have h := Option.some.inj h; subst h
   obtain ⟨h1, h2⟩ := chk_run hd
   rw [hr]
   dsimp only [Option.bind_some]
   rw [h1, h2]; rfl
 all_goals exact triv h
theorem effO_run {s : St RT den} {ty : Nat} {op : Op} {r : Bool × D RT den × List (Ob RT den)} (h : effO E s ty op = some r) (hr : r.1 = true) : eff E s ty op = some r.2 := by
 have triv : ∀ {v : Option (D RT den × List (Ob RT den))}, (v.bind fun d => some (true, d)) = some r → v = some r.2 := by
  intro v hv
  simp only [Option.bind_eq_some_iff] at hv
  obtain ⟨d', h1, h2⟩ := hv
  have h2 := Option.some.inj h2; subst h2
  exact h1
 cases op
 case makeSlice t l c =>
  unfold effO at h; unfold eff
  simp only [Option.bind_eq_some_iff] at h ⊢
  obtain ⟨e, he, by', hby, τ, hτ, z, hz, y, hy, h⟩ := h
  refine ⟨e, he, by', hby, τ, hτ, z, hz, y, hy, ?_⟩
  generalize E.ev s 0 l = dl at h ⊢
  generalize E.ev s 0 c = dc at h ⊢
  split at h
  ·have h := Option.some.inj h; subst h
   simp only [Bool.and_eq_true, decide_eq_true_eq] at hr
   dsimp only
   rw [if_pos hr]
  ·simp at h
 case call c =>
  obtain ⟨callee, args, argTypes⟩ := c
  cases callee with
  | value f => exact triv h
  | invoke f m => exact triv h
  | builtin b =>
   by_cases hb : b = .append
   ·subst hb
    unfold effO at h; unfold eff
    dsimp only at h ⊢
    split at h
    ·rename_i xo yo t t' hxs hts
     try rw [hxs, hts]
     try dsimp only
     split at h
     ·rename_i htt
      rw [if_pos htt]
      simp only [Option.bind_eq_some_iff] at h ⊢
      obtain ⟨e, he, by', hby, zc, hzc, z, hz, h⟩ := h
      exact ⟨e, he, by', hby, zc, hzc, z, hz, r, h, by rw [hr]; rfl⟩
     ·simp at h
    ·simp at h
   ·cases b <;> first | exact triv h | exact absurd rfl hb
 case store t x y =>
  unfold effO at h
  dsimp only at h
  split at h
  ·rename_i o z j off hx
   split at h
   ·rename_i l τ n p f hob
    unfold eff
    dsimp only
    rw [hx]
    dsimp only
    rw [hob]
    dsimp only
    simp only [Option.bind_eq_some_iff] at h ⊢
    obtain ⟨m, hm, h⟩ := h
    refine ⟨m, hm, ?_⟩
    cases hq : (E.ev s t y).cells.all D.flat && decide ((E.ev s t y).cells.length = m) with
    | false => rw [hq] at h; cases h
    | true =>
     rw [hq] at h
     simp only [cond_true, Option.bind_eq_some_iff] at h ⊢
     obtain ⟨u, hu, h⟩ := h
     have h := Option.some.inj h; subst h
     exact ⟨u, hu, by dsimp only at hr; rw [hr]; rfl⟩
   ·exact triv h
  ·exact triv h
 all_goals exact triv h
theorem evOp_run {pc : Pc RT den} {o : Oper} {al : Nat} {s : St RT den} {ρ : Type} {k : St RT den → Option ρ} {r : ρ} (h : evOp E pc o al s k = some r) : ∃ s', doOp E pc.run o al s = some s' ∧ k s' = some r := by
 obtain ⟨dst, op, ty, pos, after, guard⟩ := o
 by_cases hp : ∃ c x y, op = .pick c x y
 ·obtain ⟨c, x, y, rfl⟩ := hp
  simp only [evOp] at h
  simp only [doOp, xOf, still, cond_true, val]
  generalize E.ev s 0 c = dc at h ⊢
  split at h
  ·rename_i t
   split at h
   ·rename_i d hm
    exact ⟨_, rfl, h⟩
   ·rename_i hm
    cases t with
    | true => exact ⟨_, rfl, h⟩
    | false => exact ⟨_, rfl, h⟩
  ·simp at h
 ·have e : evOp E pc ⟨dst, op, ty, pos, after, guard⟩ al s k = match xOf pc.has op with
  | some (f, xs) => bif pc.gv f then none else bif pc.dp f then
    (argsD E (pc.lend f) s.objs (E.args s (E.par f) xs)).bind fun y => bif y.1 then (pc.fx f y.2.1 y.2.2.1).bind fun u => u.x.bind fun z =>
    (backD E (pc.lend f) s.objs y.2.2.2 (u.g z)).bind fun r => bif r.1 then k (({ s with objs := r.2.2 } : St RT den).put dst r.2.1) else none else none
   else bif pc.pl f && !plOk2 (pc.lend f) s.objs (E.args s (E.par f) xs) then none else (argsX E (pc.lend f) s.objs (E.args s (E.par f) xs)).bind fun y => (pc.fx f y.1 y.2.1).bind fun u => u.x.bind fun z =>
    (backX E (pc.lend f) s.objs y.2.2 (u.g z)).bind fun r => k (({ s with objs := r.2 } : St RT den).put dst r.1)
  | none => match xOf pc.gv op with
  | some (f, xs) => bif pc.gv f then (argG E s.objs (E.args s (E.par f) xs)).bind fun y => (pc.fx f y.2.1 y.2.2).bind fun u => u.x.bind fun z =>
    (backG E s.objs y.1 (u.g z)).bind fun r => k ((({ s with objs := r.2 } : St RT den).kill y.1).put dst r.1) else none
  | none => bif still op then (match valO E pc s al ty op with
   | some u => u.x.bind fun y => bif u.ok (u.g y) then k (s.put dst (u.g y)) else none
   | none => none)
  else (match effO E s ty op with
   | some r => bif r.1 then k ((({ s with objs := r.2.2 } : St RT den).kill (victim E s op)).put dst r.2.1) else none
   | none => none) := by
   cases op <;> first | rfl | (exfalso; exact hp ⟨_, _, _, rfl⟩)
  rw [e] at h
  simp only [doOp]
  cases hxo : xOf pc.has op with
  | some fx =>
   obtain ⟨f, xs⟩ := fx
   rw [hxo] at h
   have hxo' : xOf pc.run.has op = some (f, xs) := hxo
   have hdr : pc.run.dp f = pc.dp f := rfl
   have hgr : pc.run.gv f = pc.gv f := rfl
   dsimp only at h
   cases hgv : pc.gv f with
   | true => rw [hgv] at h; cases h
   | false =>
   rw [hgv] at h
   simp only [cond_false] at h
   cases hdp : pc.dp f with
   | true =>
    rw [hdp] at h
    simp only [cond_true, Option.bind_eq_some_iff] at h
    obtain ⟨y, hy, h⟩ := h
    cases hy1 : y.1 with
    | false => rw [hy1] at h; cases h
    | true =>
    rw [hy1] at h
    simp only [cond_true, Option.bind_eq_some_iff] at h
    obtain ⟨u, hu, z, hz, r', hr', h⟩ := h
    cases hr1 : r'.1 with
    | false => rw [hr1] at h; cases h
    | true =>
    rw [hr1] at h
    refine ⟨_, ?_, h⟩
    rw [hxo']
    have hcall : callX E pc.run s.objs f (E.args s (E.par f) xs) = some r'.2 := by
     simp only [callX, hgr, hgv, hdr, hdp, cond_true, cond_false, callD, Option.bind_eq_some_iff]
     refine ⟨y, hy, ?_⟩
     rw [hy1]
     simp only [cond_true, Option.bind_eq_some_iff]
     exact ⟨u.g z, by simp only [Pc.run, hu, Option.bind_some, OutX.run, hz], r', hr', by rw [hr1]; rfl⟩
    simp only [hcall, Option.bind_some]
   | false =>
   rw [hdp] at h
   simp only [cond_false] at h
   cases hpl : (pc.pl f && !plOk2 (pc.lend f) s.objs (E.args s (E.par f) xs)) with
   | true => rw [hpl] at h; cases h
   | false =>
   rw [hpl] at h
   simp only [cond_false, Option.bind_eq_some_iff] at h
   obtain ⟨y, hy, u, hu, z, hz, r', hr', hk⟩ := h
   have hpl' : (pc.run.pl f && !plOk2 (pc.run.lend f) s.objs (E.args s (E.par f) xs)) = false := hpl
   refine ⟨_, ?_, hk⟩
   rw [hxo']
   have hcall : callX E pc.run s.objs f (E.args s (E.par f) xs) = some r' := by
    simp only [callX, hgr, hgv, hdr, hdp, hpl', cond_false, Option.bind_eq_some_iff]
    exact ⟨y, hy, u.g z, by simp only [Pc.run, hu, Option.bind_some, OutX.run, hz], hr'⟩
   simp only [hcall, Option.bind_some]
  | none =>
  rw [hxo] at h
  have hxo' : xOf pc.run.has op = none := hxo
  rw [hxo']
  dsimp only at h ⊢
  cases hxg : xOf pc.gv op with
  | some fx =>
   obtain ⟨f, xs⟩ := fx
   rw [hxg] at h
   have hxg' : xOf pc.run.gv op = some (f, xs) := hxg
   have hgr : pc.run.gv f = pc.gv f := rfl
   rw [hxg']
   dsimp only at h ⊢
   cases hgv : pc.gv f with
   | false => rw [hgv] at h; cases h
   | true =>
   rw [hgv] at h
   simp only [cond_true, Option.bind_eq_some_iff] at h
   obtain ⟨y, hy, u, hu, z, hz, r', hr', hk⟩ := h
   refine ⟨_, ?_, hk⟩
   have hcall : callG E pc.run s.objs f (E.args s (E.par f) xs) = some (y.1, r') := by
    simp only [callG, hgr, hgv, cond_true, Option.bind_eq_some_iff]
    exact ⟨y, hy, u.g z, by simp only [Pc.run, hu, Option.bind_some, OutX.run, hz], r', hr', rfl⟩
   simp only [hcall, Option.bind_some]
  | none =>
  rw [hxg] at h
  have hxg' : xOf pc.run.gv op = none := hxg
  rw [hxg']
  dsimp only at h ⊢
  cases hst : still op with
  | true =>
   simp only [hst, cond_true] at h ⊢
   split at h
   ·rename_i u hu
    simp only [Option.bind_eq_some_iff] at h
    obtain ⟨y, hy, h⟩ := h
    cases hok : u.ok (u.g y) with
    | false => rw [hok] at h; simp at h
    | true =>
     rw [hok] at h
     have := valO_run hu (d := u.g y) (by simp [Out.run, hy, hok])
     exact ⟨_, by rw [this]; rfl, h⟩
   ·simp at h
  | false =>
   simp only [hst, cond_false] at h ⊢
   split at h
   ·rename_i u hu
    cases hok : u.1 with
    | false => rw [hok] at h; simp at h
    | true =>
     rw [hok] at h
     have := effO_run hu hok
     exact ⟨_, by rw [this]; rfl, h⟩
   ·simp at h
theorem evOps_run {pc : Pc RT den} {ops : Array Oper} {ρ : Type} {r : ρ} : ∀ (l : List (Oper × Nat)) (s : St RT den) (k : St RT den → Option ρ), evOps E pc ops l s k = some r → ∃ s', runOps E pc.run ops l s = some s' ∧ k s' = some r
 | [], s, k, h => ⟨s, rfl, h⟩
 | (o, al) :: l, s, k, h => by
  simp only [evOps] at h
  simp only [runOps, stepOp]
  split at h
  ·rename_i hg
   obtain ⟨s1, h1, h2⟩ := evOp_run h
   simp only [hg, h1, Option.bind_some]
   exact evOps_run l s1 k h2
  ·rename_i j want hg
   simp only [hg]
   split at h
   ·rename_i t ht
    simp only [ht]
    split at h
    ·rename_i g hgt
     simp only [hgt]
     cases want <;> cases g <;> dsimp only at h <;> simp only [cond_true, cond_false] at h <;> rw [put_same hgt (by simp)] at h
     ·obtain ⟨s1, h1, h2⟩ := evOp_run h
      simp only [beq_self_eq_true, cond_true, h1, Option.bind_some]
      exact evOps_run l s1 k h2
     ·exact evOps_run l _ k h
     ·exact evOps_run l _ k h
     ·obtain ⟨s1, h1, h2⟩ := evOp_run h
      simp only [beq_self_eq_true, cond_true, h1, Option.bind_some]
      exact evOps_run l s1 k h2
    ·rename_i hgt
     simp only [hgt, Option.bind_some]
     exact evOps_run l _ k h
    ·simp at h
   ·simp at h
theorem fields_congr {s s' : St RT den} (t : Nat) : ∀ (ps : List (Nat × Operand)) (cs : List (D RT den)), (∀ u x, x ∈ ps.map (·.2) → E.ev s u x = E.ev s' u x) → fields E s t ps cs = fields E s' t ps cs
 | [], _, _ => rfl
 | (i, x) :: ps, cs, h => by
  simp only [fields]
  congr 1; funext p
  congr 1; funext n
  rw [h p.2 x (by simp)]
  split
  ·congr 1; funext cs'
   exact fields_congr t ps cs' (fun u y hy => h u y (by simp at hy ⊢; exact .inr hy))
  ·rfl
theorem elems_congr {s s' : St RT den} (τ : RT) : ∀ (ps : List (Nat × Operand)) (j : Nat), (∀ u x, x ∈ ps.map (·.2) → E.ev s u x = E.ev s' u x) → elems E τ s ps j = elems E τ s' ps j
 | [], _, _ => rfl
 | (i, x) :: ps, j, h => by
  simp only [elems]
  rw [h 0 x (by simp)]
  split
  ·congr 1; funext y
   rw [elems_congr τ ps (j + 1) (fun u z hz => h u z (by simp at hz ⊢; exact .inr hz))]
  ·rfl
theorem elems_congr0 {s s' : St RT den} (τ : RT) : ∀ (ps : List (Nat × Operand)) (j : Nat), (∀ x, x ∈ ps.map (·.2) → E.ev s 0 x = E.ev s' 0 x) → elems E τ s ps j = elems E τ s' ps j
 | [], _, _ => rfl
 | (i, x) :: ps, j, h => by
  simp only [elems]
  split
  ·rw [h x (by simp), elems_congr0 τ ps (j + 1) (fun z hz => h z (by simp at hz ⊢; exact .inr hz))]
  ·rfl
theorem elemsL_congr {s s' : St RT den} (τ : RT) (ps : List (Nat × Operand)) (j : Nat) (h : ∀ u x, x ∈ ps.map (·.2) → E.ev s u x = E.ev s' u x) : elemsL E τ s ps j = elemsL E τ s' ps j := by
 unfold elemsL
 rw [elems_congr τ ps j h]
theorem args_congr {s s' : St RT den} : ∀ (ts : List Nat) (xs : List Operand), (∀ u x, x ∈ xs → E.ev s u x = E.ev s' u x) → E.args s ts xs = E.args s' ts xs
 | _, [], _ => by simp [Env.args]
 | [], x :: xs, h => by
  simp only [Env.args]
  rw [h 0 x (by simp), args_congr [] xs (fun u y hy => h u y (by simp [hy]))]
 | t :: ts, x :: xs, h => by
  simp only [Env.args]
  rw [h t x (by simp), args_congr ts xs (fun u y hy => h u y (by simp [hy]))]
theorem val_congr {pc : Nat → List (D RT den) → Option (D RT den)} {s s' : St RT den} {al ty : Nat} {op : Op} (ho : s.objs = s'.objs) (h : ∀ t x, x ∈ op.operands.toList → E.ev s t x = E.ev s' t x) : val E pc s al ty op = val E pc s' al ty op := by
 cases op
 case move x => unfold val; dsimp only; rw [h _ x (by simp [Op.operands])]
 case assign x => unfold val; dsimp only; rw [h _ x (by simp [Op.operands])]
 case pick c x y => unfold val; dsimp only; rw [h 0 c (by simp [Op.operands]), h ty x (by simp [Op.operands]), h ty y (by simp [Op.operands])]
 case alloc t => rfl
 case load t x => unfold val; dsimp only; rw [h _ x (by simp [Op.operands]), ho]
 case nilCheck x => unfold val; dsimp only; rw [h _ x (by simp [Op.operands])]
 case binOp op t x y yt => unfold val; dsimp only; rw [h 0 x (by simp [Op.operands]), h 0 y (by simp [Op.operands]), h t x (by simp [Op.operands]), h t y (by simp [Op.operands])]
 case unOp op t x => unfold val; dsimp only; rw [h _ x (by simp [Op.operands])]
 case fieldAddr t x f => unfold val; dsimp only; rw [h _ x (by simp [Op.operands])]
 case field t x f => unfold val; dsimp only; rw [h _ x (by simp [Op.operands])]
 case extract x i => unfold val; dsimp only; rw [h _ x (by simp [Op.operands])]
 case convert s d x => unfold val; dsimp only; rw [h _ x (by simp [Op.operands]), ho]
 case makeFunc fn first caps =>
  cases fn <;> try rfl
  unfold val; dsimp only
  rw [List.map_congr_left (fun x hx => h 0 x (by simp [Op.operands]; exact .inr (by simpa using hx)))]
 case slice t x lo hi mx =>
  cases mx with
  | some m => rfl
  | none =>
   unfold val; dsimp only
   rw [h _ x (by simp [Op.operands])]
   cases lo <;> cases hi <;> dsimp only
   ·rw [h _ _ (by simp [Op.operands])]
   ·rw [h _ _ (by simp [Op.operands])]
   ·rename_i l r
    rw [h 0 l (by simp [Op.operands]), h 0 r (by simp [Op.operands])]
 case indexAddr t x y => unfold val; dsimp only; rw [h _ x (by simp [Op.operands]), h _ y (by simp [Op.operands])]
 case call c =>
  obtain ⟨callee, args, argTypes⟩ := c
  cases callee with
  | value f =>
   unfold val; dsimp only
   rw [h 0 f (by simp [Op.operands, Call.operands]), ho]
   split
   ·rw [args_congr _ _ (fun u x hx => h u x (by simp only [Op.operands, Call.operands, Array.toList_append, List.mem_append]; exact .inr hx))]
   ·rfl
  | invoke f m => rfl
  | builtin b =>
   have hm : args.toList.map (E.ev s 0) = args.toList.map (E.ev s' 0) := List.map_congr_left (fun x hx => h 0 x (by simp [Op.operands, Call.operands]; simpa using hx))
   cases b <;> try rfl
   case max => unfold val; dsimp only; rw [hm]
   case min => unfold val; dsimp only; rw [hm]
   unfold val; dsimp only
   split
   ·rename_i x t hx ht
    rw [h 0 x (by simp [Op.operands, Call.operands, hx])]
   ·rfl
 case build t ps =>
  unfold val; dsimp only
  congr 1
  congr 1; funext cs
  rw [fields_congr t ps.toList cs (fun u x hx => h u x (by simpa [Op.operands] using hx))]
 case buildSlice t len ps =>
  unfold val; dsimp only
  congr 1; funext e
  congr 1; funext τ
  congr 1; funext z
  congr 1; funext zc
  split
  ·split
   ·rfl
   ·rw [elemsL_congr τ ps.toList 0 (fun u x hx => h u x (by simpa [Op.operands] using hx))]
    split
    ·rfl
    ·split
     ·rename_i x hps
      rw [h 0 x (by simp [Op.operands, hps])]
     ·rfl
  ·rfl
 all_goals rfl
def stepVal (E : Env RT den) (pc : Nat → List (D RT den) → Option (D RT den)) (ops : Array Oper) (p : Oper × Nat) (s : St RT den) : Option (D RT den) :=
 match p.1.guard with
 | none => val E pc s p.2 p.1.type p.1.op
 | some (j, want) =>
  match dstOf ops j with
  | some t =>
   match s.get t with
   | .bool g => bif g == want then val E pc s p.2 p.1.type p.1.op else some .undef
   | .undef => some .undef
   | _ => none
  | none => none
theorem stepOp_still {pc : Pr RT den} {ops : Array Oper} {p : Oper × Nat} {s : St RT den} (h : calm pc.has pc.gv p.1.op = true) : stepOp E pc ops p s = (stepVal E pc.fn ops p s).bind fun d => some (s.put p.1.dst d) := by
 have h0 : still p.1.op = true ∧ xOf pc.has p.1.op = none ∧ xOf pc.gv p.1.op = none := by simpa only [calm, Bool.and_eq_true, Option.isNone_iff_eq_none] using h
 obtain ⟨h, hx, hx2⟩ := h0
 unfold stepOp stepVal
 split
 ·simp [doOp, h, hx, hx2]
 ·split
  ·rename_i j want hg _ t ht
   split
   ·rename_i g hgt
    cases hw : (g == want) with
    | true => simp [doOp, h, hx, hx2]
    | false => simp
   ·rfl
   ·rfl
  ·rfl
theorem ev_congr {s s' : St RT den} {l : List Nat} (h : ∀ t ∈ l, s.get t = s'.get t) (u : Nat) (x : Operand) (hx : ∀ t, x = .tmp t → t ∈ l) : E.ev s u x = E.ev s' u x := by
 cases x with
 | tmp t => exact h t (hx t rfl)
 | _ => rfl
theorem looksAt_op {ops : Array Oper} {o : Oper} {t : Nat} (h : .tmp t ∈ o.op.operands.toList) : t ∈ o.looksAt ops := by
 simp only [Oper.looksAt, List.mem_append, List.mem_filterMap]
 exact .inl ⟨_, h, rfl⟩
theorem stepVal_congr {pc : Nat → List (D RT den) → Option (D RT den)} {ops : Array Oper} {p : Oper × Nat} {s s' : St RT den} (ho : s.objs = s'.objs) (h : ∀ t ∈ p.1.looksAt ops, s.get t = s'.get t) : stepVal E pc ops p s = stepVal E pc ops p s' := by
 have hval : val E pc s p.2 p.1.type p.1.op = val E pc s' p.2 p.1.type p.1.op := val_congr ho (fun u x hx => ev_congr h u x (fun t e => looksAt_op (by subst e; exact hx)))
 unfold stepVal
 split
 ·exact hval
 ·rename_i j want hg
  split
  ·rename_i t ht
   have hm : t ∈ p.1.looksAt ops := by
    simp only [Oper.looksAt, hg, List.mem_append]
    right
    unfold dstOf at ht
    simp [ht]
   rw [h t hm, hval]
  ·rfl
theorem get_put {s : St RT den} {t d : Nat} {x : D RT den} (h : t ≠ d) : (s.put (some d) x).get t = s.get t := by
 unfold St.put St.get
 simp [List.getElem?_set_ne (Ne.symm h)]
theorem put_objs {s : St RT den} {d : Option Nat} {x : D RT den} : (s.put d x).objs = s.objs := by cases d <;> rfl
theorem put_comm {s : St RT den} {d d' : Option Nat} {x y : D RT den} (h : ∀ t, d = some t → d' ≠ some t) : (s.put d x).put d' y = (s.put d' y).put d x := by
 cases d with
 | none => rfl
 | some d =>
  cases d' with
  | none => rfl
  | some d' =>
   have hne : d ≠ d' := fun e => h d rfl (by rw [e])
   simp only [St.put, St.mk.injEq, and_true]
   exact List.set_comm _ _ hne
theorem bare_calm {has gv : Nat → Bool} {op : Op} (h : bare op = true) : calm has gv op = true := by
 cases op <;> first | rfl | (cases h; done) | skip
 rename_i c
 obtain ⟨callee, args, argTypes⟩ := c
 cases callee <;> first | (cases h; done) | skip
 rename_i b
 cases b <;> first | rfl | (cases h; done)
theorem bare_val {pc : Nat → List (D RT den) → Option (D RT den)} {s s' : St RT den} {al ty : Nat} {op : Op} (hb : bare op = true) (hcv : ∀ t u x, op = .convert t u x → (E.ik t).isSome = true) (h : ∀ t x, x ∈ op.operands.toList → E.ev s t x = E.ev s' t x) : val E pc s al ty op = val E pc s' al ty op := by
 cases op <;> try (cases hb; done)
 case move x => unfold val; dsimp only; rw [h _ x (by simp [Op.operands])]
 case assign x => unfold val; dsimp only; rw [h _ x (by simp [Op.operands])]
 case extract x i => unfold val; dsimp only; rw [h _ x (by simp [Op.operands])]
 case alloc t => rfl
 case nilCheck x => unfold val; dsimp only; rw [h _ x (by simp [Op.operands])]
 case binOp op t x y yt => unfold val; dsimp only; rw [h 0 x (by simp [Op.operands]), h 0 y (by simp [Op.operands]), h t x (by simp [Op.operands]), h t y (by simp [Op.operands])]
 case unOp op t x => unfold val; dsimp only; rw [h _ x (by simp [Op.operands])]
 case fieldAddr t x f => unfold val; dsimp only; rw [h _ x (by simp [Op.operands])]
 case field t x f => unfold val; dsimp only; rw [h _ x (by simp [Op.operands])]
 case convert s1 d x =>
  have hk := hcv s1 d x rfl
  unfold val; dsimp only
  cases hq : E.ik s1 with
  | none => rw [hq] at hk; cases hk
  | some k0 => dsimp only; rw [h _ x (by simp [Op.operands])]
 case indexAddr t x y => unfold val; dsimp only; rw [h _ x (by simp [Op.operands]), h _ y (by simp [Op.operands])]
 case slice t x lo hi mx =>
  cases mx with
  | some m => rfl
  | none =>
   unfold val; dsimp only
   rw [h _ x (by simp [Op.operands])]
   cases lo <;> cases hi <;> dsimp only
   ·rw [h _ _ (by simp [Op.operands])]
   ·rw [h _ _ (by simp [Op.operands])]
   ·rename_i l r
    rw [h 0 l (by simp [Op.operands]), h 0 r (by simp [Op.operands])]
 case build t ps =>
  unfold val; dsimp only
  congr 1
  congr 1; funext cs
  rw [fields_congr t ps.toList cs (fun u x hx => h u x (by simpa [Op.operands] using hx))]
 case buildSlice t len ps =>
  unfold val; dsimp only
  congr 1; funext e
  congr 1; funext τ
  congr 1; funext z
  congr 1; funext zc
  split
  ·split
   ·rfl
   ·rw [elemsL_congr τ ps.toList 0 (fun u x hx => h u x (by simpa [Op.operands] using hx))]
    split
    ·rfl
    ·split
     ·rename_i x hps
      rw [h 0 x (by simp [Op.operands, hps])]
     ·rfl
  ·rfl
 case call c =>
  obtain ⟨callee, args, argTypes⟩ := c
  cases callee <;> try (cases hb; done)
  rename_i b
  cases b <;> try (cases hb; done)
  unfold val; dsimp only
  split
  ·rename_i x t hx ht
   rw [h 0 x (by simp [Op.operands, Call.operands, hx])]
  ·rfl
def Ext (os os' : List (Ob RT den)) : Prop := ∀ o, obj os o ≠ .gone → obj os o ≠ .box false [] → obj os' o = obj os o
theorem Ext.append {os outs : List (Ob RT den)} : Ext os (os ++ outs) := fun o hg _ => by
 have hs := obj_some rfl hg
 unfold obj
 rw [List.getD_eq_getElem?_getD, List.getD_eq_getElem?_getD, List.getElem?_append_left (List.getElem?_eq_some_iff.1 hs).1]
theorem Ext.set {os : List (Ob RT den)} {al : Nat} {ob : Ob RT den} (h : os[al]? = some (.box false [])) : Ext os (os.set al ob) := fun o hg hb => by
 have hne : al ≠ o := fun e => by
  subst e
  apply hb
  unfold obj
  rw [List.getD_eq_getElem?_getD, h]; rfl
 unfold obj
 rw [List.getD_eq_getElem?_getD, List.getD_eq_getElem?_getD, List.getElem?_set_ne hne]
theorem obj_mono {os os' : List (Ob RT den)} (hE' : Ext os os') {o : Nat} {ob : Ob RT den} (hob : obj os o = ob) (hg : ob ≠ .gone) (hb : ob ≠ .box false []) : obj os' o = ob := by
 rw [hE' o (by rw [hob]; exact hg) (by rw [hob]; exact hb)]; exact hob
theorem snapFlat_mono {os os' : List (Ob RT den)} (hE' : Ext os os') {d d' : D RT den} (h : snapFlat E os d = some d') : snapFlat E os' d = some d' := by
 cases d with
 | os o len =>
  simp only [snapFlat] at h ⊢
  split at h
  ·rename_i hob
   rw [obj_mono hE' hob (by simp) (by simp)]; exact h
  ·rename_i hob
   rw [obj_mono hE' hob (by simp) (by simp)]; exact h
  ·cases h
 | fn f cap => cases cap <;> first | exact h | (simp [snapFlat] at h; done)
 | _ => first | exact h | (simp [snapFlat] at h; done)
theorem snapList_mono {os os' : List (Ob RT den)} (hE' : Ext os os') : ∀ {l l' : List (D RT den)}, snapList E os l = some l' → snapList E os' l = some l'
 | [], l', h => h
 | d :: l, l', h => by
  simp only [snapList, Option.bind_eq_some_iff] at h ⊢
  obtain ⟨x, hx, y, hy, h⟩ := h
  exact ⟨x, snapFlat_mono hE' hx, y, snapList_mono hE' hy, h⟩
theorem snap1_mono {os os' : List (Ob RT den)} (hE' : Ext os os') {d d' : D RT den} (h : snap1 E os d = some d') : snap1 E os' d = some d' := by
 cases d with
 | agg cs =>
  simp only [snap1, Option.bind_eq_some_iff] at h ⊢
  obtain ⟨x, hx, h⟩ := h
  exact ⟨x, snapList_mono hE' hx, h⟩
 | ref o off =>
  simp only [snap1] at h ⊢
  split at h
  ·rename_i lb cs hob
   cases hlt : Nat.blt off cs.length with
   | false => rw [hlt] at h; cases h
   | true =>
   rw [obj_mono hE' hob (by simp) (fun e => by cases e; cases hlt)]
   simp only [hlt, cond_true, Option.bind_eq_some_iff] at h ⊢
   obtain ⟨x, hx, h⟩ := h
   exact ⟨x, snapList_mono hE' hx, h⟩
  ·cases h
 | eref o sz j off =>
  simp only [snap1] at h ⊢
  split at h
  ·rename_i hob
   rw [obj_mono hE' hob (by simp) (by simp)]; exact h
  ·cases h
 | _ => simp only [snap1] at h ⊢; exact snapFlat_mono hE' h
theorem snaps1_mono {os os' : List (Ob RT den)} (hE' : Ext os os') : ∀ {l l' : List (D RT den)}, snaps1 E os l = some l' → snaps1 E os' l = some l'
 | [], l', h => h
 | d :: l, l', h => by
  simp only [snaps1, Option.bind_eq_some_iff] at h ⊢
  obtain ⟨x, hx, y, hy, h⟩ := h
  exact ⟨x, snap1_mono hE' hx, y, snaps1_mono hE' hy, h⟩
theorem snap_mono {os os' : List (Ob RT den)} (hE' : Ext os os') {d d' : D RT den} (h : snap E os d = some d') : snap E os' d = some d' := by
 cases d with
 | fn f cap =>
  simp only [snap, Option.bind_eq_some_iff] at h ⊢
  obtain ⟨x, hx, h⟩ := h
  exact ⟨x, snaps1_mono hE' hx, h⟩
 | _ => simp only [snap] at h ⊢; exact snap1_mono hE' h
theorem snaps_mono {os os' : List (Ob RT den)} (hE' : Ext os os') : ∀ {l l' : List (D RT den)}, snaps E os l = some l' → snaps E os' l = some l'
 | [], l', h => h
 | d :: l, l', h => by
  simp only [snaps, Option.bind_eq_some_iff] at h ⊢
  obtain ⟨x, hx, y, hy, h⟩ := h
  exact ⟨x, snap_mono hE' hx, y, snaps_mono hE' hy, h⟩
theorem load_mono {os os' : List (Ob RT den)} (hE' : Ext os os') {t : Nat} {p d : D RT den} (h : load E os t p = some d) : load E os' t p = some d := by
 simp only [load, Option.bind_eq_some_iff] at h ⊢
 obtain ⟨cs, hcs, h⟩ := h
 refine ⟨cs, ?_, h⟩
 cases p with
 | ref o off =>
  simp only [cellsAt] at hcs ⊢
  split at hcs
  ·rename_i lb cs' hob
   cases hlt : Nat.blt off cs'.length with
   | false => rw [hlt] at hcs; cases hcs
   | true =>
   rw [obj_mono hE' hob (by simp) (fun e => by cases e; cases hlt)]; exact hcs
  ·cases hcs
 | eref o sz j off =>
  simp only [cellsAt] at hcs ⊢
  split at hcs
  ·rename_i hob
   rw [obj_mono hE' hob (by simp) (by simp)]; exact hcs
  ·cases hcs
 | rptr cs' => simp only [cellsAt] at hcs ⊢; exact hcs
 | _ => simp [cellsAt] at hcs
theorem dload_mono {os os' : List (Ob RT den)} (hE' : Ext os os') {t : Nat} {p : D RT den} {r : Bool × D RT den} (h : dload E os t p = some r) : dload E os' t p = some r ∧ load E os' t p = none := by simp [dload] at h
def noObj : Op → Bool
 | .load .. | .convert .. | .call { callee := .value _, .. } => false
 | _ => true
theorem noobj_val {pc : Nat → List (D RT den) → Option (D RT den)} {s s' : St RT den} {al ty : Nat} {op : Op} (hb : noObj op = true) (h : ∀ t x, x ∈ op.operands.toList → E.ev s t x = E.ev s' t x) : val E pc s al ty op = val E pc s' al ty op := by
 cases op
 case move x => unfold val; dsimp only; rw [h _ x (by simp [Op.operands])]
 case assign x => unfold val; dsimp only; rw [h _ x (by simp [Op.operands])]
 case pick c x y => unfold val; dsimp only; rw [h 0 c (by simp [Op.operands]), h ty x (by simp [Op.operands]), h ty y (by simp [Op.operands])]
 case alloc t => rfl
 case load t x => cases hb
 case nilCheck x => unfold val; dsimp only; rw [h _ x (by simp [Op.operands])]
 case binOp op t x y yt => unfold val; dsimp only; rw [h 0 x (by simp [Op.operands]), h 0 y (by simp [Op.operands]), h t x (by simp [Op.operands]), h t y (by simp [Op.operands])]
 case unOp op t x => unfold val; dsimp only; rw [h _ x (by simp [Op.operands])]
 case fieldAddr t x f => unfold val; dsimp only; rw [h _ x (by simp [Op.operands])]
 case field t x f => unfold val; dsimp only; rw [h _ x (by simp [Op.operands])]
 case extract x i => unfold val; dsimp only; rw [h _ x (by simp [Op.operands])]
 case makeFunc fn first caps =>
  cases fn <;> try rfl
  unfold val; dsimp only
  rw [List.map_congr_left (fun x hx => h 0 x (by simp [Op.operands]; exact .inr (by simpa using hx)))]
 case slice t x lo hi mx =>
  cases mx with
  | some m => rfl
  | none =>
   unfold val; dsimp only
   rw [h _ x (by simp [Op.operands])]
   cases lo <;> cases hi <;> dsimp only
   ·rw [h _ _ (by simp [Op.operands])]
   ·rw [h _ _ (by simp [Op.operands])]
   ·rename_i l r
    rw [h 0 l (by simp [Op.operands]), h 0 r (by simp [Op.operands])]
 case indexAddr t x y => unfold val; dsimp only; rw [h _ x (by simp [Op.operands]), h _ y (by simp [Op.operands])]
 case call c =>
  obtain ⟨callee, args, argTypes⟩ := c
  cases callee with
  | value f => cases hb
  | invoke f m => rfl
  | builtin b =>
   have hm : args.toList.map (E.ev s 0) = args.toList.map (E.ev s' 0) := List.map_congr_left (fun x hx => h 0 x (by simp [Op.operands, Call.operands]; simpa using hx))
   cases b <;> try rfl
   case max => unfold val; dsimp only; rw [hm]
   case min => unfold val; dsimp only; rw [hm]
   unfold val; dsimp only
   split
   ·rename_i x t hx ht
    rw [h 0 x (by simp [Op.operands, Call.operands, hx])]
   ·rfl
 case build t ps =>
  unfold val; dsimp only
  congr 1
  congr 1; funext cs
  rw [fields_congr t ps.toList cs (fun u x hx => h u x (by simpa [Op.operands] using hx))]
 case buildSlice t len ps =>
  unfold val; dsimp only
  congr 1; funext e
  congr 1; funext τ
  congr 1; funext z
  congr 1; funext zc
  split
  ·split
   ·rfl
   ·rw [elemsL_congr τ ps.toList 0 (fun u x hx => h u x (by simpa [Op.operands] using hx))]
    split
    ·rfl
    ·split
     ·rename_i x hps
      rw [h 0 x (by simp [Op.operands, hps])]
     ·rfl
  ·rfl
 all_goals first | rfl | (cases hb; done)
theorem rd_mono {os os' : List (Ob RT den)} (hE' : Ext os os') {d d' : D RT den} (h : strOf E (rdRow os d) = some d') : strOf E (rdRow os' d) = some d' := by
 cases d with
 | os o len =>
  simp only [rdRow] at h ⊢
  have : obj os' o = obj os o := by
   refine hE' o (fun e => ?_) (fun e => ?_) <;> rw [e] at h <;> simp [strOf] at h
  rw [this]; exact h
 | _ => exact h
theorem val_mono {pc : Nat → List (D RT den) → Option (D RT den)} {s s' : St RT den} {al ty : Nat} {op : Op} {d : D RT den} (hE' : Ext s.objs s'.objs) (h : ∀ t x, x ∈ op.operands.toList → E.ev s t x = E.ev s' t x) (hv : val E pc s al ty op = some d) : val E pc s' al ty op = some d := by
 by_cases hb : noObj op = true
 ·rw [← noobj_val hb h]; exact hv
 ·cases op <;> try (exact absurd rfl hb)
  case convert s1 d1 x =>
   unfold val at hv ⊢
   dsimp only at hv ⊢
   rw [← h _ x (by simp [Op.operands])]
   cases hq : E.ik s1 with
   | some k0 => rw [hq] at hv; exact hv
   | none =>
    rw [hq] at hv
    simp only [Option.bind_eq_some_iff] at hv ⊢
    obtain ⟨e, he, ke, hke, hv⟩ := hv
    refine ⟨e, he, ke, hke, ?_⟩
    cases hc : decide (ke = .u8) && E.est d1 with
    | false => rw [hc] at hv; cases hv
    | true => rw [hc] at hv; exact rd_mono hE' hv
  case load t x =>
   unfold val at hv ⊢
   dsimp only at hv ⊢
   rw [← h _ x (by simp [Op.operands])]
   split at hv
   ·rename_i d' hl
    rw [load_mono hE' hl]; exact hv
   ·simp only [Option.bind_eq_some_iff] at hv
    obtain ⟨r, hr, hv⟩ := hv
    obtain ⟨hd1, hd2⟩ := dload_mono hE' hr
    rw [hd2, hd1]
    exact hv
  case call c =>
   obtain ⟨callee, args, argTypes⟩ := c
   cases callee <;> try (exact absurd rfl hb)
   rename_i f
   unfold val at hv ⊢
   dsimp only at hv ⊢
   rw [← h 0 f (by simp [Op.operands, Call.operands])]
   split at hv
   ·rename_i f' cap hf
    rw [← args_congr _ _ (fun u x hx => h u x (by simp only [Op.operands, Call.operands, Array.toList_append, List.mem_append]; exact .inr hx))]
    simp only [evCall, Option.bind_eq_some_iff] at hv ⊢
    obtain ⟨ys, hys, hv⟩ := hv
    exact ⟨ys, snaps_mono hE' hys, hv⟩
   ·cases hv
def turn (E : Env RT den) (pc : Pr RT den) (s : St RT den) (ty : Nat) (op : Op) : Option (D RT den × List (Ob RT den)) :=
 match xOf pc.has op with
 | some (f, xs) => callX E pc s.objs f (E.args s (E.par f) xs)
 | none => eff E s ty op
theorem xOf_call {has : Nat → Bool} {op : Op} {f : Nat} {xs : List Operand} (h : xOf has op = some (f, xs)) : ∃ (args : Array Operand) (argTypes : Array TypeId), op = .call ⟨.value (.func f), args, argTypes⟩ ∧ xs = args.toList := by
 cases op <;> try (cases h; done)
 rename_i c
 obtain ⟨callee, args, argTypes⟩ := c
 cases callee <;> try (cases h; done)
 rename_i g
 cases g <;> try (cases h; done)
 rename_i g
 simp only [xOf] at h
 cases hh : has g <;> rw [hh] at h <;> simp only [cond_true, cond_false, reduceCtorEq, Option.some.injEq, Prod.mk.injEq] at h
 obtain ⟨rfl, rfl⟩ := h
 exact ⟨_, _, rfl, rfl⟩
theorem copy_call {op : Op} (h : isCopy op = true) : ∃ (args : Array Operand) (argTypes : Array TypeId), op = .call ⟨.builtin .copy, args, argTypes⟩ := by
 cases op <;> try (cases h; done)
 rename_i c
 obtain ⟨callee, args, argTypes⟩ := c
 cases callee <;> try (cases h; done)
 rename_i b
 cases b <;> try (cases h; done)
 exact ⟨_, _, rfl⟩
theorem copy_len {os : List (Ob RT den)} {z : Nat} {dx dy : D RT den} {r : D RT den × List (Ob RT den)} (h : copyTo E os z dx dy = some r) : r.2.length = os.length := by simp [copyTo] at h
theorem turn_congr {pc : Pr RT den} {s s' : St RT den} {ty : Nat} {op : Op} (hb : isTurn pc.has op = true) (ho : s.objs = s'.objs) (h : ∀ t x, x ∈ op.operands.toList → E.ev s t x = E.ev s' t x) : turn E pc s ty op = turn E pc s' ty op := by
 unfold turn
 cases hx : xOf pc.has op with
 | some fx =>
  obtain ⟨f, xs⟩ := fx
  obtain ⟨args, argTypes, rfl, rfl⟩ := xOf_call hx
  dsimp only
  rw [ho, args_congr _ _ (fun u x hx => h u x (by simp only [Op.operands, Call.operands, Array.toList_append, List.mem_append]; exact .inr hx))]
 | none =>
  dsimp only
  cases op <;> try (simp [isTurn, isCopy, xOf] at hb; done)
  case store t a x => unfold eff; dsimp only; rw [h _ x (by simp [Op.operands]), h _ a (by simp [Op.operands]), ho]
  case box t x => unfold eff; dsimp only; rw [h _ x (by simp [Op.operands]), ho]
  case makeSlice t l c => unfold eff; dsimp only; rw [h _ l (by simp [Op.operands]), h _ c (by simp [Op.operands]), ho]
  case call c =>
   simp only [isTurn, hx, Option.isSome_none, Bool.or_false] at hb
   obtain ⟨args, argTypes, ec⟩ := copy_call hb
   rw [ec] at h ⊢
   unfold eff
   dsimp only
   split
   ·rename_i x y t t' hxs hts
    rw [h _ x (by simp only [Op.operands, Call.operands, Array.toList_append, List.mem_append, hxs]; simp), h _ y (by simp only [Op.operands, Call.operands, Array.toList_append, List.mem_append, hxs]; simp), ho]
   ·rfl
theorem doOp_turn {pc : Pr RT den} {o : Oper} {al : Nat} {s : St RT den} (h : isTurn pc.has o.op = true) : doOp E pc o al s = (turn E pc s o.type o.op).bind fun r => some (({ s with objs := r.2 } : St RT den).put o.dst r.1) := by
 unfold doOp turn
 cases hx : xOf pc.has o.op with
 | some fx => rfl
 | none =>
  obtain ⟨dst, op, ty, pos, after, guard⟩ := o
  dsimp only at h hx ⊢
  cases op <;> first | rfl | (simp [isTurn, isCopy, xOf] at h; done) | skip
  case call c =>
   simp only [isTurn, hx, Option.isSome_none, Bool.or_false] at h
   obtain ⟨args, argTypes, ec⟩ := copy_call h
   rw [ec]
   rfl
theorem calm_x {has gv : Nat → Bool} {op : Op} (h : calm has gv op = true) : still op = true ∧ xOf has op = none ∧ xOf gv op = none := by
 simp only [calm, Bool.and_eq_true, Option.isNone_iff_eq_none] at h; exact h
theorem bareVal_congr {pc : Nat → List (D RT den) → Option (D RT den)} {ops : Array Oper} {p : Oper × Nat} {s s' : St RT den} (hb : bare p.1.op = true) (hcv : ∀ t u x, p.1.op = .convert t u x → (E.ik t).isSome = true) (h : ∀ t ∈ p.1.looksAt ops, s.get t = s'.get t) : stepVal E pc ops p s = stepVal E pc ops p s' := by
 have hval : val E pc s p.2 p.1.type p.1.op = val E pc s' p.2 p.1.type p.1.op := bare_val hb hcv (fun u x hx => ev_congr h u x (fun t e => looksAt_op (by subst e; exact hx)))
 unfold stepVal
 split
 ·exact hval
 ·rename_i j want hg
  split
  ·rename_i t ht
   have hm : t ∈ p.1.looksAt ops := by
    simp only [Oper.looksAt, hg, List.mem_append]
    right
    unfold dstOf at ht
    simp [ht]
   rw [h t hm, hval]
  ·rfl
def stepEff (E : Env RT den) (pc : Pr RT den) (ops : Array Oper) (p : Oper × Nat) (s : St RT den) : Option (D RT den × List (Ob RT den)) :=
 match p.1.guard with
 | none => turn E pc s p.1.type p.1.op
 | some (j, want) =>
  match dstOf ops j with
  | some t =>
   match s.get t with
   | .bool g => bif g == want then turn E pc s p.1.type p.1.op else some (.undef, s.objs)
   | .undef => some (.undef, s.objs)
   | _ => none
  | none => none
theorem stepOp_store {pc : Pr RT den} {ops : Array Oper} {p : Oper × Nat} {s : St RT den} (h : isTurn pc.has p.1.op = true) : stepOp E pc ops p s = (stepEff E pc ops p s).bind fun r => some (({ s with objs := r.2 } : St RT den).put p.1.dst r.1) := by
 have hd : ∀ s : St RT den, doOp E pc p.1 p.2 s = _ := fun s => doOp_turn (E := E) (s := s) h
 unfold stepOp stepEff
 split
 ·exact hd s
 ·split
  ·rename_i j want hg _ t ht
   split
   ·rename_i g hgt
    cases hw : (g == want) with
    | true => exact hd s
    | false => simp
   ·rfl
   ·rfl
  ·rfl
theorem stepEff_congr {pc : Pr RT den} {ops : Array Oper} {p : Oper × Nat} {s s' : St RT den} (hb : isTurn pc.has p.1.op = true) (ho : s.objs = s'.objs) (h : ∀ t ∈ p.1.looksAt ops, s.get t = s'.get t) : stepEff E pc ops p s = stepEff E pc ops p s' := by
 have hval : turn E pc s p.1.type p.1.op = turn E pc s' p.1.type p.1.op := turn_congr hb ho (fun u x hx => ev_congr h u x (fun t e => looksAt_op (by subst e; exact hx)))
 unfold stepEff
 split
 ·exact hval
 ·rename_i j want hg
  split
  ·rename_i t ht
   have hm : t ∈ p.1.looksAt ops := by
    simp only [Oper.looksAt, hg, List.mem_append]
    right
    unfold dstOf at ht
    simp [ht]
   rw [h t hm, hval, ho]
  ·rfl
theorem put_with {s : St RT den} {d : Option Nat} {x : D RT den} {os : List (Ob RT den)} : ({ s.put d x with objs := os } : St RT den) = ({ s with objs := os } : St RT den).put d x := by cases d <;> rfl
theorem grows_turn {has lend : Nat → Bool} {op : Op} (h : grows has lend op = true) : isTurn has op = true := by
 cases op <;> first | rfl | skip
 case call c =>
  simp only [grows] at h
  simp only [isTurn]
  split at h
  ·rename_i hx; rw [hx]; simp
  ·cases h
 all_goals (simp only [grows, xOf] at h; cases h)
theorem turn_grows {pc : Pr RT den} {s : St RT den} {ty : Nat} {op : Op} (h : grows pc.has pc.lend op = true) {r : D RT den × List (Ob RT den)} (hr : turn E pc s ty op = some r) : ∃ outs, r.2 = s.objs ++ outs := by
 unfold turn at hr
 split at hr
 ·rename_i f xs hx
  have hl : pc.lend f = false := by
   obtain ⟨args, argTypes, rfl, rfl⟩ := xOf_call hx
   simp only [grows, hx, Bool.not_eq_true'] at h
   exact h
  unfold callX at hr
  cases hgv : pc.gv f with
  | true => rw [hgv] at hr; cases hr
  | false =>
  rw [hgv] at hr
  simp only [cond_false] at hr
  cases hdp : pc.dp f with
  | true =>
   rw [hdp] at hr
   simp only [cond_true, callD, Option.bind_eq_some_iff] at hr
   obtain ⟨y, hy, hr⟩ := hr
   cases hy1 : y.1 with
   | false => rw [hy1] at hr; cases hr
   | true =>
   rw [hy1] at hr
   simp only [cond_true, Option.bind_eq_some_iff] at hr
   obtain ⟨x, _, u, hu, hr⟩ := hr
   rw [hl] at hu
   simp only [backD] at hu
   cases hq : x.1.hs && x.2.all (Ob.okD E) with
   | false => rw [hq] at hu; cases hu
   | true =>
    rw [hq] at hu
    simp only [cond_true, Option.some.injEq] at hu
    subst hu
    simp only [cond_true, Option.some.injEq] at hr
    subst hr
    exact ⟨_, rfl⟩
  | false =>
  rw [hdp] at hr
  simp only [cond_false] at hr
  rw [Bool.cond_eq_ite] at hr
  split at hr
  ·cases hr
  simp only [Option.bind_eq_some_iff] at hr
  obtain ⟨⟨ys, ins, ids⟩, hy, x, hx2, hv⟩ := hr
  rw [hl] at hv
  simp only [backX] at hv
  cases hq : x.1.hs && x.2.all (Ob.flat E) with
  | false => rw [hq] at hv; cases hv
  | true =>
   rw [hq] at hv
   simp only [cond_true, Option.some.injEq] at hv
   subst hv
   exact ⟨_, rfl⟩
 ·rename_i hx
  cases op <;> try (simp only [grows, xOf] at h; cases h; done)
  case call c => simp only [grows, hx] at h; cases h
  case box t x =>
   unfold eff at hr
   dsimp only at hr
   cases hq : (E.ev s t x).cells.all D.flat with
   | false => simp [hq] at hr
   | true => simp only [hq, cond_true, Option.some.injEq] at hr; subst hr; exact ⟨_, rfl⟩
  case makeSlice t l c =>
   unfold eff at hr
   dsimp only at hr
   simp only [Option.bind_eq_some_iff] at hr
   obtain ⟨e, he, by', hby, τ, hτ, zc, hzc, y, hy, hr⟩ := hr
   split at hr
   ·split at hr
    ·have hr := Option.some.inj hr; subst hr; exact ⟨_, rfl⟩
    ·simp at hr
   ·simp at hr
theorem stepEff_grows {pc : Pr RT den} {ops : Array Oper} {p : Oper × Nat} {s : St RT den} (h : grows pc.has pc.lend p.1.op = true) {r : D RT den × List (Ob RT den)} (hr : stepEff E pc ops p s = some r) : ∃ outs, r.2 = s.objs ++ outs := by
 unfold stepEff at hr
 split at hr
 ·exact turn_grows h hr
 ·rename_i j want hgd
  split at hr
  ·split at hr
   ·rename_i g hgt
    cases hw : (g == want) with
    | true => rw [hw] at hr; exact turn_grows h hr
    | false => rw [hw] at hr; simp only [cond_false, Option.some.injEq] at hr; subst hr; exact ⟨[], by simp⟩
   ·simp only [Option.some.injEq] at hr; subst hr; exact ⟨[], by simp⟩
   ·cases hr
  ·cases hr
theorem stepVal_mono {pc : Nat → List (D RT den) → Option (D RT den)} {ops : Array Oper} {p : Oper × Nat} {s s' : St RT den} {d : D RT den} (hE' : Ext s.objs s'.objs) (h : ∀ t ∈ p.1.looksAt ops, s.get t = s'.get t) (hv : stepVal E pc ops p s = some d) : stepVal E pc ops p s' = some d := by
 have hval : ∀ d, val E pc s p.2 p.1.type p.1.op = some d → val E pc s' p.2 p.1.type p.1.op = some d := fun d hd => val_mono hE' (fun u x hx => ev_congr h u x (fun t e => looksAt_op (by subst e; exact hx))) hd
 unfold stepVal at hv ⊢
 cases hg : p.1.guard with
 | none => rw [hg] at hv; exact hval d hv
 | some jw =>
  obtain ⟨j, want⟩ := jw
  rw [hg] at hv
  dsimp only at hv ⊢
  cases ht : dstOf ops j with
  | none => rw [ht] at hv; cases hv
  | some t =>
   rw [ht] at hv
   dsimp only at hv ⊢
   have hm : t ∈ p.1.looksAt ops := by
    simp only [Oper.looksAt, hg, List.mem_append]
    right
    unfold dstOf at ht
    simp [ht]
   rw [← h t hm]
   split at hv
   ·rename_i g hgt
    cases hw : (g == want) with
    | true => rw [hw] at hv; exact hval d hv
    | false => rw [hw] at hv; exact hv
   ·exact hv
   ·cases hv
theorem step_swap0 {pc : Pr RT den} {ops : Array Oper} {p q : Oper × Nat} {s s1 s2 : St RT den} (hsw : (calm pc.has pc.gv p.1.op && calm pc.has pc.gv q.1.op && p.1.apart ops q.1) = true) (h1 : stepOp E pc ops p s = some s1) (h2 : stepOp E pc ops q s1 = some s2) :
  ∃ s1', stepOp E pc ops q s = some s1' ∧ stepOp E pc ops p s1' = some s2 := by
 simp only [Bool.and_eq_true] at hsw
 obtain ⟨⟨hp, hq⟩, hap⟩ := hsw
 obtain ⟨a1, a2, a3⟩ := Oper.apart_spec hap
 rw [stepOp_still hp, Option.bind_eq_some_iff] at h1
 rw [stepOp_still hq, Option.bind_eq_some_iff] at h2
 obtain ⟨d1, v1, e1⟩ := h1
 obtain ⟨d2, v2, e2⟩ := h2
 have e1 := Option.some.inj e1
 have e2 := Option.some.inj e2
 subst e1; subst e2
 have c2 : stepVal E pc.fn ops q s = some d2 := by
  rw [← v2]
  refine stepVal_congr put_objs.symm (fun t ht => ?_)
  cases hd : p.1.dst with
  | none => rfl
  | some d => exact (get_put (fun e => a1 d hd (by rw [← e]; exact ht))).symm
 have c1 : stepVal E pc.fn ops p (s.put q.1.dst d2) = some d1 := by
  rw [← v1]
  refine stepVal_congr put_objs (fun t ht => ?_)
  cases hd : q.1.dst with
  | none => rfl
  | some d => exact get_put (fun e => a3 d hd (by rw [← e]; exact ht))
 refine ⟨s.put q.1.dst d2, by rw [stepOp_still hq, c2]; rfl, ?_⟩
 rw [stepOp_still hp, c1]
 simp only [Option.bind_some, Option.some.injEq]
 exact (put_comm a2).symm
structure PrC (pr : D RT den → Bool) : Prop where
 undef : pr .undef = true
 q : pr .q = true
 ref : ∀ o off k, pr (.ref o off) = true → pr (.ref o (off + k)) = true
 eref : ∀ o z j off k, pr (.eref o z j off) = true → pr (.eref o z j (off + k)) = true
 rptr : ∀ cs k, pr (.rptr cs) = true → pr (.rptr (cs.drop k)) = true
 emp : ∀ z τ, pr (.emp z τ) = true
 rs : ∀ z τ n f cs, pr (.rs z τ n f) = true → pr (.rptr cs) = true
 os : ∀ o n z j, pr (.os o n) = true → pr (.eref o z j 0) = true
theorem prc_fzd : PrC (D.fzd : D RT den → Bool) := ⟨rfl, rfl, fun _ _ _ h => h, fun _ _ _ _ _ h => h, fun _ _ h => h, fun _ _ => rfl, fun _ _ _ _ _ _ => rfl, fun _ _ _ _ h => by cases h⟩
theorem prc_kd (b : Bool) (n k : Nat) : PrC (D.kd b n k : D RT den → Bool) := ⟨rfl, rfl, fun _ _ _ h => h, fun _ _ _ _ _ h => h, fun _ _ h => h, fun _ _ => rfl, fun _ _ _ _ _ _ => rfl, fun _ _ _ _ h => by cases h⟩
theorem prc_oldd (n : Nat) : PrC (D.oldd n : D RT den → Bool) := ⟨rfl, rfl, fun _ _ _ h => h, fun _ _ _ _ _ h => h, fun _ _ h => h, fun _ _ => rfl, fun _ _ _ _ _ _ => rfl, fun _ _ _ _ h => by cases h⟩
theorem prc_gd (n : Nat) : PrC (D.gd n : D RT den → Bool) := ⟨rfl, rfl, fun _ _ _ h => h, fun _ _ _ _ _ h => h, fun cs k h => List.all_eq_true.mpr fun d hd => List.all_eq_true.mp h d (List.mem_of_mem_drop hd), fun _ _ => rfl, fun _ _ _ _ _ h => (by cases h), fun _ _ _ _ h => (by cases h)⟩
def Fz0 (pr : D RT den → Bool) (ops : Array Oper) (fz : Nat → Bool) (s : St RT den) : Prop :=
 ∃ s0 : St RT den, (∀ t, fz t = true → ∃ n, fzB pr ops s0 n t = true) ∧ ∀ n t, fzB pr ops s0 n t = true → pr (s.get t) = true
theorem fzB_fz {pr : D RT den → Bool} (ops : Array Oper) (s : St RT den) (l : List (Ob RT den)) : Fz0 pr ops (fzB pr ops s 5) ({ s with objs := l } : St RT den) := by
 refine ⟨s, fun t ht => ⟨5, ht⟩, fun n t h => ?_⟩
 cases n with
 | zero => cases h
 | succ n =>
  simp only [fzB, Bool.and_eq_true] at h
  exact h.1
theorem get_kill {pr : D RT den → Bool} (hc : PrC pr) {s : St RT den} {v : Option Nat} {t : Nat} (h : pr (s.get t) = true) : pr ((s.kill v).get t) = true := by
 cases v with
 | none => exact h
 | some o =>
  simp only [St.get, St.kill, List.getD_eq_getElem?_getD, List.getElem?_map] at h ⊢
  cases hq : s.slots[t]? with
  | none => exact hc.undef
  | some d =>
   rw [hq] at h
   simp only [Option.getD_some, Option.map_some] at h ⊢
   cases d.nxs o with
   | true => exact hc.q
   | false => exact h
theorem ev_tmp {s : St RT den} {t i : Nat} : E.ev s t (.tmp i) = s.get i := rfl
theorem Fz0.step {pr : D RT den → Bool} (hc : PrC pr) {ops : Array Oper} {fz : Nat → Bool} {pc : Pr RT den} {p : Oper × Nat} {s s' : St RT den} (h : Fz0 pr ops fz s) (hp : p.1 ∈ ops.toList) (hs : stepOp E pc ops p s = some s') : Fz0 pr ops fz s' := by
 obtain ⟨s0, h1, h2⟩ := h
 refine ⟨s0, h1, fun n t ht => ?_⟩
 have hold := h2 n t ht
 have put : ∀ (s1 : St RT den) (d : D RT den), pr (s1.get t) = true → (p.1.dst = some t → pr d = true) → pr ((s1.put p.1.dst d).get t) = true := by
  intro s1 d h0 hd
  cases hq : p.1.dst with
  | none => exact h0
  | some i =>
   by_cases e : t = i
   ·subst e
    have := hd hq
    unfold St.get St.put
    simp only [List.getD_eq_getElem?_getD]
    by_cases hl : t < s1.slots.length
    ·rw [List.getElem?_set_self hl]; exact this
    ·rw [List.getElem?_eq_none (by simp; omega)]; exact hc.undef
   ·rw [get_put e]; exact h0
 have src : p.1.dst = some t → ∃ b, pr (s.get b) = true ∧ ((∃ u f, p.1.op = .fieldAddr u (.tmp b) f) ∨ p.1.op = .nilCheck (.tmp b) ∨ p.1.op = .move (.tmp b) ∨ p.1.op = .assign (.tmp b) ∨ (∃ u l, p.1.op = .buildSlice u 0 l) ∨ ∃ u x, p.1.op = .indexAddr u (.tmp b) x) := by
  intro hd
  cases n with
  | zero => cases ht
  | succ n =>
   simp only [fzB, Bool.and_eq_true, List.all_eq_true] at ht
   have := ht.2 p.1 hp
   rw [hd] at this
   simp only [bne_self_eq_false, Bool.false_or] at this
   split at this
   ·rename_i u b f hop; exact ⟨b, h2 n b this, .inl ⟨u, f, hop⟩⟩
   ·rename_i b hop; exact ⟨b, h2 n b this, .inr (.inl hop)⟩
   ·rename_i b hop; exact ⟨b, h2 n b this, .inr (.inr (.inl hop))⟩
   ·rename_i b hop; exact ⟨b, h2 n b this, .inr (.inr (.inr (.inl hop)))⟩
   ·rename_i u l hop; exact ⟨t, hold, .inr (.inr (.inr (.inr (.inl ⟨u, l, hop⟩))))⟩
   ·rename_i u b x hop; exact ⟨b, h2 n b this, .inr (.inr (.inr (.inr (.inr ⟨u, x, hop⟩))))⟩
   ·cases this
 have vals : ∀ d, val E pc.fn s p.2 p.1.type p.1.op = some d → p.1.dst = some t → pr d = true := by
  intro d hv hd
  obtain ⟨b, hb, hop⟩ := src hd
  rcases hop with ⟨u, f, hop⟩ | hop | hop | hop | ⟨u, l, hop⟩ | ⟨u, x, hop⟩ <;> rw [hop] at hv
  ·simp only [val, ev_tmp, Option.bind_eq_some_iff] at hv
   obtain ⟨q, _, n', _, hv⟩ := hv
   split at hv
   ·cases hv
   ·cases hq : s.get b <;> rw [hq] at hv hb <;> first | (cases hv; done) | (have hv := Option.some.inj hv; subst hv; first | exact hc.ref _ _ _ hb | exact hc.eref _ _ _ _ _ hb | exact hc.rptr _ _ hb)
  ·simp only [val, ev_tmp] at hv
   cases hq : s.get b <;> rw [hq] at hv hb <;> first | (cases hv; done) | (have hv := Option.some.inj hv; subst hv; exact hb)
  ·simp only [val, ev_tmp, Option.some.injEq] at hv; subst hv; exact hb
  ·simp only [val, ev_tmp, Option.some.injEq] at hv; subst hv; exact hb
  ·simp only [val, Option.bind_eq_some_iff] at hv
   obtain ⟨e, _, τ, _, z, _, x, _, hv⟩ := hv
   split at hv
   ·have hv := Option.some.inj hv; subst hv; exact hc.emp _ _
   ·cases hv
  ·simp only [val, ev_tmp, Option.bind_eq_some_iff] at hv
   obtain ⟨e, _, z, _, hv⟩ := hv
   split at hv
   ·rename_i h1 h2
    rw [h1] at hb
    split at hv
    ·have hv := Option.some.inj hv; subst hv; exact hc.rs _ _ _ _ _ hb
    ·cases hv
   ·rename_i h1 h2
    rw [h1] at hb
    split at hv
    ·have hv := Option.some.inj hv; subst hv; exact hc.os _ _ _ _ hb
    ·cases hv
   ·cases hv
 have nots : p.1.dst = some t → still p.1.op = true ∧ xOf pc.has p.1.op = none ∧ xOf pc.gv p.1.op = none := by
  intro hd
  obtain ⟨b, hb, hop⟩ := src hd
  rcases hop with ⟨u, f, hop⟩ | hop | hop | hop | ⟨u, l, hop⟩ | ⟨u, x, hop⟩ <;> rw [hop] <;> exact ⟨rfl, rfl, rfl⟩
 have op : ∀ {s1 : St RT den}, doOp E pc p.1 p.2 s = some s1 → pr (s1.get t) = true := by
  intro s1 hd
  unfold doOp at hd
  split at hd
  ·rename_i f xs hx
   simp only [Option.bind_eq_some_iff, Option.some.injEq] at hd
   obtain ⟨r, _, rfl⟩ := hd
   exact put _ _ hold (fun e => by have := (nots e).2.1; rw [hx] at this; cases this)
  ·split at hd
   ·rename_i f xs hx
    simp only [Option.bind_eq_some_iff, Option.some.injEq] at hd
    obtain ⟨r, _, rfl⟩ := hd
    exact put _ _ (get_kill hc hold) (fun e => by have := (nots e).2.2; rw [hx] at this; cases this)
   cases hst : still p.1.op with
   | true =>
    rw [hst] at hd
    simp only [cond_true, Option.bind_eq_some_iff, Option.some.injEq] at hd
    obtain ⟨r, hr, rfl⟩ := hd
    exact put _ _ hold (vals r hr)
   | false =>
    rw [hst] at hd
    simp only [cond_false, Option.bind_eq_some_iff, Option.some.injEq] at hd
    obtain ⟨r, _, rfl⟩ := hd
    exact put _ _ (get_kill hc hold) (fun e => by have := (nots e).1; rw [hst] at this; cases this)
 unfold stepOp at hs
 split at hs
 ·exact op hs
 ·split at hs
  ·split at hs
   ·rename_i g hg
    cases hgw : (g == _) with
    | true => rw [hgw] at hs; exact op hs
    | false => rw [hgw] at hs; have hs := Option.some.inj hs; subst hs; exact put _ _ hold (fun _ => hc.undef)
   ·have hs := Option.some.inj hs; subst hs; exact put _ _ hold (fun _ => hc.undef)
   ·cases hs
  ·cases hs
theorem backs_len {σ : Nat → Nat} : ∀ {ids : List Nat} {os xs os' : List (Ob RT den)}, backs σ os ids xs = some os' → os'.length = os.length
 | [], os, [], os', h => by simp only [backs, Option.some.injEq] at h; subst h; rfl
 | [], os, _ :: _, os', h => by simp [backs] at h
 | _ :: _, os, [], os', h => by simp [backs] at h
 | o :: ids, os, x :: xs, os', h => by
  simp only [backs] at h
  split at h
  ·have := backs_len h; simpa using this
  ·rw [Bool.cond_eq_ite] at h
   split at h
   ·have := backs_len h; simpa using this
   ·cases h
  ·cases h
theorem backsD_len : ∀ {l : List Src} {os xs : List (Ob RT den)} {r : Bool × List (Ob RT den)}, backsD E os l xs = some r → r.2.length = os.length
 | [], os, [], r, h => by simp only [backsD, Option.some.injEq] at h; subst h; rfl
 | [], os, _ :: _, r, h => by simp [backsD] at h
 | _ :: _, os, [], r, h => by simp [backsD] at h
 | (o, none) :: l, os, x :: xs, r, h => by
  simp only [backsD] at h
  split at h
  ·have := backsD_len h; simpa using this
  ·have := backsD_len h; simpa using this
  ·cases h
 | (o, some (i, j)) :: l, os, x :: xs, r, h => by
  simp only [backsD] at h
  split at h
  ·split at h
   ·split at h
    ·split at h
     ·cases h
     ·rw [Bool.cond_eq_ite] at h
      split at h
      ·simp only [Option.bind_eq_some_iff] at h
       obtain ⟨y, _, h⟩ := h
       have := backsD_len h; simpa using this
      ·cases h
    ·split at h
     ·cases h
     ·rw [Bool.cond_eq_ite] at h
      split at h
      ·cases h
      ·simp only [Option.bind_eq_some_iff, Option.some.injEq] at h
       obtain ⟨y, _, v, hv, rfl⟩ := h
       have := backsD_len hv; simpa using this
    ·cases h
   ·cases h
  ·cases h
theorem absorb_len {o : Nat} : ∀ {cs : List (D RT den)} {os : List (Ob RT den)} {r : Bool × List (D RT den) × List (Ob RT den)}, absorb E o os cs = some r → r.2.2.length = os.length:= fun h => by simp [absorb] at h
theorem callG_len {pc : Pr RT den} {os : List (Ob RT den)} {f : Nat} {ds : List (D RT den)} {r : Option Nat × D RT den × List (Ob RT den)} (h : callG E pc os f ds = some r) : os.length ≤ r.2.2.length := by
 unfold callG at h
 rw [Bool.cond_eq_ite] at h
 split at h
 ·simp only [Option.bind_eq_some_iff, Option.some.injEq] at h
  obtain ⟨y, _, x, _, u, hu, rfl⟩ := h
  unfold backG at hu
  split at hu
  ·rw [Bool.cond_eq_ite] at hu
   split at hu
   ·split at hu <;> (have hu := Option.some.inj hu; subst hu; simp)
   ·cases hu
  ·cases hu
 ·cases h
theorem callX_len {pc : Pr RT den} {os : List (Ob RT den)} {f : Nat} {ds : List (D RT den)} {r : D RT den × List (Ob RT den)} (h : callX E pc os f ds = some r) : os.length ≤ r.2.length := by
 unfold callX at h
 cases hgv : pc.gv f with
 | true => rw [hgv] at h; cases h
 | false =>
 rw [hgv] at h
 simp only [cond_false] at h
 cases hdp : pc.dp f with
 | true =>
  rw [hdp] at h
  simp only [cond_true, callD, Option.bind_eq_some_iff] at h
  obtain ⟨y, hy, h⟩ := h
  cases hy1 : y.1 with
  | false => rw [hy1] at h; cases h
  | true =>
  rw [hy1] at h
  simp only [cond_true, Option.bind_eq_some_iff] at h
  obtain ⟨x, _, u, hu, h⟩ := h
  cases hu1 : u.1 with
  | false => rw [hu1] at h; cases h
  | true =>
  rw [hu1] at h
  simp only [cond_true, Option.some.injEq] at h
  subst h
  unfold backD at hu
  split at hu
  ·rw [Bool.cond_eq_ite] at hu
   split at hu
   ·simp only [Option.bind_eq_some_iff, Option.some.injEq] at hu
    obtain ⟨v, h1, rfl⟩ := hu
    have := backsD_len h1
    show os.length ≤ v.2.length
    omega
   ·cases hu
  ·rw [Bool.cond_eq_ite] at hu
   split at hu
   ·have hu := Option.some.inj hu; subst hu; simp
   ·cases hu
 | false =>
 rw [hdp] at h
 simp only [cond_false] at h
 rw [Bool.cond_eq_ite] at h
 split at h
 ·cases h
 simp only [Option.bind_eq_some_iff] at h
 obtain ⟨y, _, x, _, h⟩ := h
 unfold backX at h
 split at h
 ·rw [Bool.cond_eq_ite] at h
  split at h
  ·simp only [Option.bind_eq_some_iff, Option.some.injEq] at h
   obtain ⟨os', h1, rfl⟩ := h
   have := backs_len h1
   simp; omega
  ·cases h
 ·rw [Bool.cond_eq_ite] at h
  split at h
  ·have h := Option.some.inj h; subst h; simp
  ·cases h
theorem eff_len {s : St RT den} {ty : Nat} {op : Op} {r : D RT den × List (Ob RT den)} (h : eff E s ty op = some r) : s.objs.length ≤ r.2.length := by
 cases op <;> unfold eff at h <;> (try dsimp only at h) <;> try (simp only [reduceCtorEq] at h; done)
 case box t x =>
  cases hq : (E.ev s t x).cells.all D.flat with
  | false => simp [hq] at h
  | true => simp only [hq, cond_true, Option.some.injEq] at h; subst h; simp
 case store t x y =>
  simp only [Option.bind_eq_some_iff] at h
  obtain ⟨n, hn, h⟩ := h
  cases hq : (E.ev s t y).cells.all D.flat && decide ((E.ev s t y).cells.length = n) with
  | false => simp [hq] at h
  | true =>
   simp only [hq, cond_true] at h
   split at h
   ·split at h
    ·simp only [Option.bind_eq_some_iff] at h
     obtain ⟨cs, hcs, h⟩ := h
     have h := Option.some.inj h; subst h; simp
    ·simp at h
   ·split at h
    ·split at h
     ·simp only [Option.bind_eq_some_iff] at h
      obtain ⟨cs, hcs, y, hy, h⟩ := h
      have h := Option.some.inj h; subst h; simp
     ·simp at h
    ·simp only [Option.bind_eq_some_iff] at h
     obtain ⟨v, hv, h⟩ := h
     rw [Bool.cond_eq_ite] at h
     split at h
     ·have h := Option.some.inj h; subst h
      show s.objs.length ≤ v.2.length
      simp [storeDeep] at hv
     ·cases h
    ·simp at h
   ·simp at h
 case makeSlice t l c =>
  simp only [Option.bind_eq_some_iff] at h
  obtain ⟨e, he, by', hby, τ, hτ, zc, hzc, y, hy, h⟩ := h
  split at h
  ·split at h
   ·have h := Option.some.inj h; subst h; simp
   ·simp at h
  ·simp at h
 case call c =>
  obtain ⟨callee, args, argTypes⟩ := c
  cases callee with
  | value f => simp at h
  | invoke f m => simp at h
  | builtin b =>
   cases b <;> try (simp at h; done)
   case copy =>
    dsimp only at h
    split at h
    ·simp only [Option.bind_eq_some_iff] at h
     obtain ⟨e, he, z, hz, h⟩ := h
     exact Nat.le_of_eq (copy_len h).symm
    ·simp at h
   case append =>
    dsimp only at h
    split at h
    ·split at h
     ·simp only [Option.bind_eq_some_iff] at h
      obtain ⟨e, he, by', hby, zc, hzc, z, hz, ⟨c, d', os'⟩, hr, h⟩ := h
      cases c with
      | false => simp at h
      | true =>
      simp only [cond_true, Option.some.injEq] at h
      subst h
      unfold appendTo at hr
      split at hr
      ·rename_i o len z' τ m g hxo hyo
       cases hboxes : clear o s.objs with
       | false => rw [hboxes] at hr; simp at hr
       | true =>
        rw [hboxes] at hr
        simp only [cond_true] at hr
        split at hr
        ·split at hr
         ·simp at hr
         ·split at hr
          ·simp only [Option.some.injEq, Prod.mk.injEq] at hr
           obtain ⟨_, _, rfl⟩ := hr
           simp
          ·simp at hr
        ·simp at hr
      ·split at hr
       ·simp at hr
       ·split at hr
        ·simp only [Option.some.injEq, Prod.mk.injEq] at hr
         obtain ⟨_, _, rfl⟩ := hr
         simp
        ·simp at hr
      ·rename_i o len τ cs hxo hyo
       rw [Bool.cond_eq_ite] at hr
       split at hr
       ·split at hr
        ·split at hr
         ·cases hr
         ·split at hr
          ·simp only [Option.bind_eq_some_iff, Option.some.injEq, Prod.mk.injEq] at hr
           obtain ⟨u, hu, y, _, _, _, rfl⟩ := hr
           have := absorb_len hu
           simp; omega
          ·cases hr
        ·cases hr
       ·cases hr
      ·split at hr
       ·cases hr
       ·split at hr
        ·simp only [Option.bind_eq_some_iff, Option.some.injEq, Prod.mk.injEq] at hr
         obtain ⟨u, hu, y, _, _, _, rfl⟩ := hr
         have := absorb_len hu
         simp; omega
        ·cases hr
      ·simp at hr
     ·simp at h
    ·simp at h
theorem stepOp_len {pc : Pr RT den} {ops : Array Oper} {p : Oper × Nat} {s s' : St RT den} (hs : stepOp E pc ops p s = some s') : s.objs.length ≤ s'.objs.length := by
 have op : ∀ {s1 : St RT den}, doOp E pc p.1 p.2 s = some s1 → s.objs.length ≤ s1.objs.length := by
  intro s1 hd
  unfold doOp at hd
  split at hd
  ·simp only [Option.bind_eq_some_iff, Option.some.injEq] at hd
   obtain ⟨r, hr, rfl⟩ := hd
   rw [put_objs]
   exact callX_len hr
  ·split at hd
   ·simp only [Option.bind_eq_some_iff, Option.some.injEq] at hd
    obtain ⟨r, hr, rfl⟩ := hd
    rw [put_objs]
    have := callG_len hr
    cases r.1 <;> exact this
   cases hst : still p.1.op with
   | true =>
    rw [hst] at hd
    simp only [cond_true, Option.bind_eq_some_iff, Option.some.injEq] at hd
    obtain ⟨r, hr, rfl⟩ := hd
    rw [put_objs]
    exact Nat.le_refl _
   | false =>
    rw [hst] at hd
    simp only [cond_false, Option.bind_eq_some_iff, Option.some.injEq] at hd
    obtain ⟨r, hr, rfl⟩ := hd
    rw [put_objs]
    have := eff_len hr
    cases victim E s p.1.op <;> exact this
 unfold stepOp at hs
 split at hs
 ·exact op hs
 ·split at hs
  ·split at hs
   ·rename_i g hg
    cases hgw : (g == _) with
    | true => rw [hgw] at hs; exact op hs
    | false => rw [hgw] at hs; have hs := Option.some.inj hs; subst hs; rw [put_objs]; exact Nat.le_refl _
   ·have hs := Option.some.inj hs; subst hs; rw [put_objs]; exact Nat.le_refl _
   ·cases hs
  ·cases hs
def Fz (E : Env RT den) (ops : Array Oper) (fz : FzS) (s : St RT den) : Prop :=
 Fz0 D.fzd ops fz.fz s ∧ (∃ n, n ≤ s.objs.length ∧ (Fz0 (D.oldd n) ops fz.ol s ∧ (Fz0 (D.gd n) ops fz.gz s ∧ ∀ t, fz.ag t = true → E.agg t = some false))) ∧ (∃ n, (n ≤ s.objs.length ∧ n ≤ fz.n) ∧ ∀ b k, Fz0 (D.kd b n k) ops (fz.kz b k) s) ∧ ∀ t, fz.cv t = true → (E.ik t).isSome = true
theorem fzOf_fz (ops : Array Oper) (s : St RT den) (l : List (Ob RT den)) : Fz E ops (fzS E ops s) ({ s with objs := s.objs ++ l } : St RT den) :=
 ⟨fzB_fz ops s _, ⟨s.objs.length, by simp, fzB_fz ops s _, fzB_fz ops s _, fun t h => eq_of_beq h⟩, ⟨s.objs.length, ⟨by simp, Nat.le_refl _⟩, fun b k => fzB_fz ops s _⟩, fun _ h => h⟩
theorem Fz.step {ops : Array Oper} {fz : FzS} {pc : Pr RT den} {p : Oper × Nat} {s s' : St RT den} (h : Fz E ops fz s) (hp : p.1 ∈ ops.toList) (hs : stepOp E pc ops p s = some s') : Fz E ops fz s' := by
 obtain ⟨h1, ⟨n, h2, h3, h7, h8⟩, ⟨n', h4, h5⟩, h6⟩ := h
 exact ⟨h1.step prc_fzd hp hs, ⟨n, Nat.le_trans h2 (stepOp_len hs), h3.step (prc_oldd n) hp hs, h7.step (prc_gd n) hp hs, h8⟩, ⟨n', ⟨Nat.le_trans h4.1 (stepOp_len hs), h4.2⟩, fun b k => (h5 b k).step (prc_kd b n' k) hp hs⟩, h6⟩
theorem fz_calm {has gv : Nat → Bool} {fz : Nat → Bool} {op : Op} (h : fzLoad fz op = true) : calm has gv op = true := by
 cases op <;> first | rfl | (simp [fzLoad] at h; done)
theorem load_fz {s s' : St RT den} {ty t : Nat} (hf : (s.get t).fzd = true) (hg : s.get t = s'.get t) : load E s.objs ty (s.get t) = load E s'.objs ty (s'.get t) := by
 rw [← hg]
 cases hq : s.get t <;> rw [hq] at hf <;> first | (cases hf; done) | rfl
theorem dload_fz {s s' : St RT den} {ty t : Nat} (hf : (s.get t).fzd = true) (hg : s.get t = s'.get t) : dload E s.objs ty (s.get t) = dload E s'.objs ty (s'.get t) := by
 rw [← hg]
 cases hq : s.get t <;> rw [hq] at hf <;> first | (cases hf; done) | rfl
theorem fzVal_congr {pc : Nat → List (D RT den) → Option (D RT den)} {ops : Array Oper} {fz : FzS} {p : Oper × Nat} {s s' : St RT den} (hf : Fz E ops fz s) (hb : fzLoad fz.fz p.1.op = true) (h : ∀ t ∈ p.1.looksAt ops, s.get t = s'.get t) : stepVal E pc ops p s = stepVal E pc ops p s' := by
 have hval : val E pc s p.2 p.1.type p.1.op = val E pc s' p.2 p.1.type p.1.op := by
  have hl := fun t (ht : Operand.tmp t ∈ p.1.op.operands.toList) => h t (looksAt_op ht)
  cases hop : p.1.op <;> rw [hop] at hb hl <;> try (simp [fzLoad] at hb; done)
  case convert t0 u0 x =>
   cases x <;> try (simp [fzLoad] at hb; done)
   rename_i t
   obtain ⟨⟨s0, h1, h2⟩, _⟩ := hf
   obtain ⟨n, hn⟩ := h1 t hb
   have hq := h2 n t hn
   simp only [val, ev_tmp]
   rw [← hl t (by simp [Op.operands])]
   cases hd : s.get t <;> rw [hd] at hq <;> first | (cases hq; done) | rfl
  rename_i ty x
  cases x <;> try (simp [fzLoad] at hb; done)
  rename_i t
  obtain ⟨⟨s0, h1, h2⟩, _⟩ := hf
  obtain ⟨n, hn⟩ := h1 t hb
  simp only [val, ev_tmp]
  rw [load_fz (h2 n t hn) (hl t (by simp [Op.operands])), dload_fz (h2 n t hn) (hl t (by simp [Op.operands]))]
 unfold stepVal
 split
 ·exact hval
 ·rename_i j want hg
  split
  ·rename_i t ht
   have hm : t ∈ p.1.looksAt ops := by
    simp only [Oper.looksAt, hg, List.mem_append]
    right
    unfold dstOf at ht
    simp [ht]
   rw [h t hm, hval]
  ·rfl
theorem bf_congr {pc : Nat → List (D RT den) → Option (D RT den)} {ops : Array Oper} {fz : FzS} {p : Oper × Nat} {s s' : St RT den} (hf : Fz E ops fz s) (hb : (bareC fz.cv p.1.op || fzLoad fz.fz p.1.op) = true) (h : ∀ t ∈ p.1.looksAt ops, s.get t = s'.get t) : stepVal E pc ops p s = stepVal E pc ops p s' := by
 rcases Bool.or_eq_true _ _ ▸ hb with hb | hb
 ·simp only [bareC, Bool.and_eq_true] at hb
  refine bareVal_congr hb.1 (fun t u x e => ?_) h
  have := hb.2
  rw [e] at this
  exact hf.2.2.2 t this
 ·exact fzVal_congr hf hb h
theorem oldVal {pc : Nat → List (D RT den) → Option (D RT den)} {ops : Array Oper} {fz : FzS} {p : Oper × Nat} {s s' : St RT den} {outs : List (Ob RT den)} {d : D RT den} (hf : Fz E ops fz s) (hb : fzLoad fz.ol p.1.op = true) (ho : s'.objs = s.objs ++ outs) (h : ∀ t ∈ p.1.looksAt ops, s.get t = s'.get t)
  (hv : stepVal E pc ops p s' = some d) : stepVal E pc ops p s = some d := by
 have hval : val E pc s p.2 p.1.type p.1.op = val E pc s' p.2 p.1.type p.1.op := by
  have hl := fun t (ht : Operand.tmp t ∈ p.1.op.operands.toList) => h t (looksAt_op ht)
  cases hop : p.1.op <;> rw [hop] at hb hl <;> try (simp [fzLoad] at hb; done)
  case convert t0 u0 x =>
   cases x <;> try (simp [fzLoad] at hb; done)
   rename_i t
   obtain ⟨_, ⟨n0, hn0, ⟨s0, h1, h2⟩, _⟩, _⟩ := hf
   obtain ⟨n, hn⟩ := h1 t hb
   have hq := h2 n t hn
   simp only [val, ev_tmp]
   rw [← hl t (by simp [Op.operands])]
   cases hd : s.get t <;> rw [hd] at hq <;> first | (cases hq; done) | rfl
  rename_i ty x
  cases x <;> try (simp [fzLoad] at hb; done)
  rename_i t
  obtain ⟨_, ⟨n0, hn0, ⟨s0, h1, h2⟩, _⟩, _⟩ := hf
  obtain ⟨n, hn⟩ := h1 t hb
  have hq := h2 n t hn
  simp only [val, ev_tmp]
  rw [← hl t (by simp [Op.operands]), ho]
  have hobj : ∀ o, Nat.blt o n0 = true → obj (s.objs ++ outs) o = obj s.objs o := by
   intro o hlt
   have hlt : o < n0 := by simpa [Nat.blt_eq] using hlt
   unfold obj
   rw [List.getD_eq_getElem?_getD, List.getD_eq_getElem?_getD, List.getElem?_append_left (by omega)]
  cases hd : s.get t <;> rw [hd] at hq <;> try (cases hq; done)
  ·rfl
  ·rfl
  ·rename_i o off
   simp only [load, cellsAt, dload, hobj o hq]
  ·rename_i o z j off
   simp only [load, cellsAt, dload, hobj o hq]
  ·rfl
  ·rfl
 have e : stepVal E pc ops p s = stepVal E pc ops p s' := by
  unfold stepVal
  split
  ·exact hval
  ·rename_i j want hg
   split
   ·rename_i t ht
    have hm : t ∈ p.1.looksAt ops := by
     simp only [Oper.looksAt, hg, List.mem_append]
     right
     unfold dstOf at ht
     simp [ht]
    rw [h t hm, hval]
   ·rfl
 rw [e]; exact hv
theorem bf_calm {has gv : Nat → Bool} {cv fz : Nat → Bool} {op : Op} (h : (bareC cv op || fzLoad fz op) = true) : calm has gv op = true := by
 rcases Bool.or_eq_true _ _ ▸ h with h | h
 ·simp only [bareC, Bool.and_eq_true] at h
  exact bare_calm h.1
 ·exact fz_calm h
theorem kill_put {s : St RT den} {v d : Option Nat} {x : D RT den} : (s.put d x).kill v = (s.kill v).put d (match v with | some o => bif x.nxs o then .q else x | none => x) := by
 cases v with
 | none => rfl
 | some o =>
  cases d with
  | none => rfl
  | some i => simp only [St.put, St.kill, List.map_set]
theorem get_killed {s : St RT den} {o i : Nat} : (s.kill (some o)).get i = bif (s.get i).nxs o then .q else s.get i := by
 simp only [St.get, St.kill, List.getD_eq_getElem?_getD, List.getElem?_map]
 cases hq : s.slots[i]? with
 | none => rfl
 | some d => rfl
theorem ev_kill {s : St RT den} {v : Option Nat} {t : Nat} {x : Operand} : E.ev (s.kill v) t x = match v with | some o => bif (E.ev s t x).nxs o then .q else E.ev s t x | none => E.ev s t x := by
 cases v with
 | none => rfl
 | some o =>
  cases x with
  | tmp i => exact get_killed
  | const c =>
   have : (E.ev s t (.const c)).nxs o = false := by
    simp only [Env.ev, ofValue]
    split <;> first | rfl | (split <;> rfl)
   simp only [this, cond_false]
   rfl
  | func f => rfl
  | global g => rfl
theorem app_congr {pc : Nat → List (D RT den) → Option (D RT den)} {s s' : St RT den} {ty : Nat} {args : Array Operand} {argTypes : Array TypeId} (ho : s.objs = s'.objs) (h : ∀ t x, x ∈ args.toList → E.ev s t x = E.ev s' t x) :
  eff E s ty (.call ⟨.builtin .append, args, argTypes⟩) = eff E s' ty (.call ⟨.builtin .append, args, argTypes⟩) ∧ victim E s (.call ⟨.builtin .append, args, argTypes⟩) = victim E s' (.call ⟨.builtin .append, args, argTypes⟩) := by
 constructor
 ·unfold eff
  dsimp only
  split
  ·rename_i x y t t' hxs hts
   rw [h 0 x (by rw [hxs]; simp), h 0 y (by rw [hxs]; simp), ho]
  ·rfl
 ·unfold victim
  dsimp only
  split
  ·rename_i x y hxs
   rw [h 0 x (by rw [hxs]; simp)]
  ·rfl
theorem lit_nxs {τ : RT} {d : D RT den} {o : Nat} (hf : d.cells.all D.fl2 = true) (hq : d.nxs o = false) : (D.lit (den := den) τ d.cells).nxs o = false := by
 cases d <;> first | exact hq | (simp only [D.cells, D.nxs, List.any_cons, List.any_nil, Bool.or_false]; first | exact hq | rfl | (simp [D.cells, D.fl2, D.flat] at hf; done))
theorem elems_kill (hE : Ok E P) {τ : RT} {s : St RT den} {o : Nat} : ∀ {ps : List (Nat × Operand)} {j : Nat} {l : List (den τ)}, elems E τ (s.kill (some o)) ps j = some l → elems E τ s ps j = some l
 | [], _, _, h => h
 | (i, x) :: ps, j, l, h => by
  simp only [elems] at h ⊢
  split at h
  ·rename_i e
   rw [if_pos e]
   simp only [Option.bind_eq_some_iff, Option.some.injEq] at h ⊢
   obtain ⟨y, hy, l', hl, rfl⟩ := h
   refine ⟨y, ?_, l', elems_kill hE hl, rfl⟩
   rw [ev_kill] at hy
   dsimp only at hy
   cases hq : (E.ev s 0 x).nxs o with
   | false => rw [hq] at hy; exact hy
   | true =>
    exfalso
    rw [hq] at hy
    have h1 := hE.dec _ _ _ hy
    have h2 := hE.pure τ y
    rw [h1] at h2
    simp [D.cells, nrm, norm, D.pure] at h2
  ·cases h
theorem cut_int {q : Bool} {z : Nat} {x l h : D RT den} {r : Bool × D RT den} (hr : cutOf E q z x l h = some r) : (∃ k n, l = .int k n) ∧ (∃ k n, h = .int k n) := by
 unfold cutOf at hr
 split at hr <;> first | exact ⟨⟨_, _, rfl⟩, _, _, rfl⟩ | cases hr
theorem kd_int {d : D RT den} {o : Nat} (h : ∃ k n, (bif d.nxs o then .q else d) = D.int k n) : (bif d.nxs o then .q else d) = d := by
 obtain ⟨k, n, h⟩ := h
 cases hk : d.nxs o with
 | true => rw [hk] at h; cases h
 | false => rfl
theorem cut_nxs {q : Bool} {z o : Nat} {x l h : D RT den} {r : Bool × D RT den} (hr : cutOf E q z x l h = some r) (hx : x.nxs o = false) : r.2.nxs o = false := by
 unfold cutOf at hr
 split at hr
 ·split at hr
  ·cases hr; rfl
  ·cases hr
 ·cases hr; rfl
 ·rw [Bool.cond_eq_ite] at hr
  split at hr
  ·cases hr; exact hx
  ·split at hr
   ·cases hr; exact hx
   ·cases hr
 ·cases hr
theorem val_kill (hE : Ok E P) {pcf : Nat → List (D RT den) → Option (D RT den)} {cv : Nat → Bool} (hcv : ∀ t, cv t = true → (E.ik t).isSome = true) {s : St RT den} {o al ty : Nat} {op : Op} (hop : gBare cv op = true) {d1 : D RT den} (h : val E pcf (s.kill (some o)) al ty op = some d1) :
  ∃ d0, val E pcf s al ty op = some d0 ∧ d1 = bif d0.nxs o then .q else d0 := by
 cases op <;> try (cases hop; done)
 case move x => simp only [val, ev_kill, Option.some.injEq] at h; exact ⟨_, rfl, h.symm⟩
 case assign x => simp only [val, ev_kill, Option.some.injEq] at h; exact ⟨_, rfl, h.symm⟩
 case fieldAddr t x f =>
  simp only [val, ev_kill, Option.bind_eq_some_iff] at h ⊢
  obtain ⟨p, hp, n, hn, h⟩ := h
  cases hq : (E.ev s 0 x).nxs o with
  | true => rw [hq] at h; split at h <;> cases h
  | false =>
   rw [hq] at h
   simp only [cond_false] at h
   refine ⟨d1, ⟨p, hp, n, hn, h⟩, ?_⟩
   split at h
   ·cases h
   ·generalize E.ev s 0 x = d at h hq
    cases d <;> first | (cases h; done) | (have h := Option.some.inj h; subst h; first | (simp only [D.nxs] at hq ⊢; rw [hq]; rfl) | rfl)
 case nilCheck x =>
  simp only [val, ev_kill] at h ⊢
  cases hq : (E.ev s 0 x).nxs o with
  | true => rw [hq] at h; cases h
  | false =>
   rw [hq] at h
   simp only [cond_false] at h
   refine ⟨d1, h, ?_⟩
   generalize E.ev s 0 x = d at h hq
   cases d <;> first | (cases h; done) | (have h := Option.some.inj h; subst h; first | (rw [hq]; rfl) | rfl)
 case slice t x lo hi mx =>
  cases mx with
  | some m => simp only [val] at h; cases h
  | none =>
  simp only [val, ev_kill, Option.bind_eq_some_iff] at h ⊢
  obtain ⟨e, he, z, hz, n, hn, r, hr, h⟩ := h
  cases hq : (E.ev s 0 x).nxs o with
  | true => rw [hq] at hn; cases hn
  | false =>
   rw [hq] at hn hr
   simp only [cond_false] at hn hr
   have hx := cut_nxs hr hq
   refine ⟨d1, ⟨e, he, z, hz, n, hn, r, ?_, h⟩, ?_⟩
   ·cases lo <;> cases hi <;> dsimp only at hr ⊢
    ·exact hr
    ·rw [kd_int (cut_int hr).2] at hr; exact hr
    ·rw [kd_int (cut_int hr).1] at hr; exact hr
    ·rw [kd_int (cut_int hr).1, kd_int (cut_int hr).2] at hr; exact hr
   cases hb : r.1 with
   | false => rw [hb] at h; cases h
   | true => rw [hb] at h; have h := Option.some.inj h; subst h; rw [hx]; rfl
 case convert t u x =>
  have hs := hcv t hop
  simp only [val, ev_kill] at h ⊢
  cases hk : E.ik t with
  | none => rw [hk] at hs; cases hs
  | some k0 =>
   rw [hk] at h
   simp only [Option.bind_eq_some_iff] at h ⊢
   obtain ⟨k, hk2, h⟩ := h
   cases hq : (E.ev s 0 x).nxs o with
   | true => rw [hq] at h; cases h
   | false =>
    rw [hq] at h
    simp only [cond_false] at h
    refine ⟨d1, ⟨k, hk2, h⟩, ?_⟩
    split at h
    ·have h := Option.some.inj h; subst h; rfl
    ·cases h
 case buildSlice t len ps =>
  simp only [val, Option.bind_eq_some_iff] at h ⊢
  obtain ⟨e, he, τ, hτ, z, hz, zc, hzc, h⟩ := h
  split at h
  rotate_left
  ·cases h
  rename_i hcond
  cases len with
  | zero => exact ⟨d1, ⟨e, he, τ, hτ, z, hz, zc, hzc, by rw [if_pos hcond]; exact h⟩, by have h := Option.some.inj h; subst h; rfl⟩
  | succ len =>
   split at h
   ·rename_i he0; cases he0
   split at h
   ·rename_i l hl
    have hl' : elemsL E τ s ps.toList 0 = some l := by
     unfold elemsL at hl ⊢
     cases hq : E.lit1 τ with
     | true => rw [hq] at hl; cases hl
     | false => rw [hq] at hl; exact elems_kill hE hl
    exact ⟨d1, ⟨e, he, τ, hτ, z, hz, zc, hzc, by rw [if_pos hcond]; simp only [hl']; exact h⟩, by have h := Option.some.inj h; subst h; rfl⟩
   ·rename_i hnone
    split at h
    rotate_left
    ·cases h
    rename_i x hps
    rw [ev_kill] at h
    dsimp only at h
    cases hq : (E.ev s 0 x).nxs o with
    | true => rw [hq] at h; simp [D.cells, D.fl2, D.flat] at h
    | false =>
     rw [hq] at h
     have hn' : elemsL E τ s ps.toList 0 = none := by
      rw [hps] at hnone ⊢
      unfold elemsL at hnone ⊢
      simp only [elems, ev_kill, hq, cond_false] at hnone ⊢
      exact hnone
     have hn'2 : elemsL E τ s [(0, x)] 0 = none := by rw [← hps]; exact hn'
     simp only [cond_false] at h
     refine ⟨d1, ⟨e, he, τ, hτ, z, hz, zc, hzc, by rw [if_pos hcond]; simp only [hn'2, hps]; exact h⟩, ?_⟩
     rw [Bool.cond_eq_ite] at h
     split at h
     ·have h := Option.some.inj h; subst h
      rename_i hfl
      simp only [Bool.and_eq_true] at hfl
      rw [lit_nxs hfl.2 hq]; rfl
     ·cases h
 case call c =>
  obtain ⟨callee, args, ts⟩ := c
  cases callee <;> try (cases hop; done)
  rename_i b
  cases b <;> try (cases hop; done)
  simp only [val] at h ⊢
  split at h
  ·simp only [ev_kill, Option.bind_eq_some_iff] at h ⊢
   obtain ⟨e, he, n, hn, h⟩ := h
   rename_i x t hx ht
   cases hq : (E.ev s 0 x).nxs o with
   | true => rw [hq] at hn; cases hn
   | false =>
    rw [hq] at hn
    exact ⟨d1, ⟨e, he, n, hn, h⟩, by have h := Option.some.inj h; subst h; rfl⟩
  ·cases h
theorem swap_app {pc : Pr RT den} {ops : Array Oper} {p q : Oper × Nat} {s s1 s2 : St RT den} (hm : isMv p.1 = true) (ha : isApp q.1 = true) (hap : p.1.apart ops q.1 = true) (h1 : stepOp E pc ops p s = some s1) (h2 : stepOp E pc ops q s1 = some s2) :
  ∃ s1', stepOp E pc ops q s = some s1' ∧ stepOp E pc ops p s1' = some s2 := by
 obtain ⟨a1, a2, a3⟩ := Oper.apart_spec hap
 simp only [isMv, Bool.and_eq_true, Option.isNone_iff_eq_none] at hm
 simp only [isApp, Bool.and_eq_true, Option.isNone_iff_eq_none] at ha
 obtain ⟨pg, pm⟩ := hm
 obtain ⟨qg, qa⟩ := ha
 obtain ⟨x, hx, hx2⟩ : ∃ x, (∀ s, val E pc.fn s p.2 p.1.type p.1.op = some (E.ev s p.1.type x)) ∧ x ∈ p.1.op.operands.toList := by
  cases hop : p.1.op <;> rw [hop] at pm <;> try (cases pm; done)
  ·exact ⟨_, fun s => rfl, by simp [Op.operands]⟩
  ·exact ⟨_, fun s => rfl, by simp [Op.operands]⟩
 have pst : ∀ s, doOp E pc p.1 p.2 s = some (s.put p.1.dst (E.ev s p.1.type x)) := by
  intro s
  have hxo : xOf pc.has p.1.op = none ∧ still p.1.op = true ∧ xOf pc.gv p.1.op = none := by
   cases hop : p.1.op <;> rw [hop] at pm <;> first | (cases pm; done) | exact ⟨rfl, rfl, rfl⟩
  unfold doOp
  rw [hxo.1, hxo.2.2, hxo.2.1]
  simp only [cond_true, hx s, Option.bind_some]
 obtain ⟨args, argTypes, hqo⟩ : ∃ args argTypes, q.1.op = .call ⟨.builtin .append, args, argTypes⟩ := by
  cases hop : q.1.op <;> rw [hop] at qa <;> try (cases qa; done)
  rename_i c
  obtain ⟨callee, args, argTypes⟩ := c
  cases callee <;> try (cases qa; done)
  rename_i b
  cases b <;> try (cases qa; done)
  exact ⟨_, _, rfl⟩
 have qst : ∀ s, doOp E pc q.1 q.2 s = (eff E s q.1.type q.1.op).bind fun r => some ((({ s with objs := r.2 } : St RT den).kill (victim E s q.1.op)).put q.1.dst r.1) := by
  intro s
  unfold doOp
  rw [hqo]
  rfl
 simp only [stepOp, pg, qg] at h1 h2 ⊢
 rw [pst] at h1
 have h1 := Option.some.inj h1; subst h1
 rw [qst, Option.bind_eq_some_iff] at h2
 obtain ⟨r, hr, h2⟩ := h2
 have h2 := Option.some.inj h2; subst h2
 have look : ∀ t y, y ∈ args.toList → E.ev (s.put p.1.dst (E.ev s p.1.type x)) t y = E.ev s t y := by
  intro t y hy
  cases y with
  | tmp i =>
   cases hd : p.1.dst with
   | none => rfl
   | some d =>
    refine get_put (fun e => a1 d hd ?_)
    rw [← e]
    exact looksAt_op (by rw [hqo]; simp [Op.operands, Call.operands]; simpa using hy)
  | const c => rfl
  | func f => rfl
  | global g => rfl
 obtain ⟨c1, c2⟩ := app_congr (E := E) (pc := pc.fn) (ty := q.1.type) (argTypes := argTypes) (s := s.put p.1.dst (E.ev s p.1.type x)) (s' := s) put_objs look
 rw [hqo] at hr
 rw [c1] at hr
 refine ⟨(({ s with objs := r.2 } : St RT den).kill (victim E s q.1.op)).put q.1.dst r.1, by rw [qst, hqo, hr]; rfl, ?_⟩
 rw [pst]
 congr 1
 have e0 : ({ s.put p.1.dst (E.ev s p.1.type x) with objs := r.2 } : St RT den) = ({ s with objs := r.2 } : St RT den).put p.1.dst (E.ev s p.1.type x) := put_with
 rw [hqo, c2, e0, kill_put]
 have e1 : E.ev ((({ s with objs := r.2 } : St RT den).kill (victim E s (.call ⟨.builtin .append, args, argTypes⟩))).put q.1.dst r.1) p.1.type x = match victim E s (.call ⟨.builtin .append, args, argTypes⟩) with | some o => bif (E.ev s p.1.type x).nxs o then .q else E.ev s p.1.type x | none => E.ev s p.1.type x := by
  have e2 : E.ev ((({ s with objs := r.2 } : St RT den).kill (victim E s (.call ⟨.builtin .append, args, argTypes⟩))).put q.1.dst r.1) p.1.type x = E.ev (({ s with objs := r.2 } : St RT den).kill (victim E s (.call ⟨.builtin .append, args, argTypes⟩))) p.1.type x := by
   cases x with
   | tmp i =>
    cases hd : q.1.dst with
    | none => rfl
    | some d => exact get_put (fun e => a3 d hd (by rw [← e]; exact looksAt_op hx2))
   | const c => rfl
   | func f => rfl
   | global g => rfl
  rw [e2, ev_kill]
  cases x <;> rfl
 rw [e1]
 exact (put_comm a2).symm
theorem ape_get {fz : Nat → Bool} {o : Oper} (ha : apE fz o = true) : o.guard = none ∧ ∃ args ts t y, o.op = .call ⟨.builtin .append, args, ts⟩ ∧ args.toList = [.tmp t, y] ∧ fz t = true := by
 simp only [apE, Bool.and_eq_true, Option.isNone_iff_eq_none] at ha
 obtain ⟨hg, ha⟩ := ha
 refine ⟨hg, ?_⟩
 cases hop : o.op <;> rw [hop] at ha <;> try (cases ha; done)
 rename_i c
 obtain ⟨callee, args, ts⟩ := c
 cases callee <;> try (cases ha; done)
 rename_i b
 cases b <;> try (cases ha; done)
 dsimp only at ha
 split at ha
 ·rename_i t y hxs; exact ⟨args, ts, t, y, rfl, hxs, ha⟩
 ·cases ha
theorem ape_step {pc : Pr RT den} {ops : Array Oper} {fz : Nat → Bool} {q : Oper × Nat} {s : St RT den} (ha : apE fz q.1 = true) (hz : ∀ t, fz t = true → t ∈ q.1.looksAt ops → (s.get t).fzd = true) : stepOp E pc ops q s = (eff E s q.1.type q.1.op).bind fun r => some (({ s with objs := r.2 } : St RT den).put q.1.dst r.1) := by
 obtain ⟨hg, args, ts, t, y, hop, hxs, ht⟩ := ape_get ha
 have hf := hz t ht (looksAt_op (by rw [hop]; simp [Op.operands, Call.operands, hxs]))
 have hv : victim E s q.1.op = none := by
  rw [hop]
  unfold victim
  dsimp only
  rw [hxs]
  dsimp only
  rw [ev_tmp]
  cases hq : s.get t <;> rw [hq] at hf <;> first | (cases hf; done) | rfl
 simp only [stepOp, hg]
 have e : doOp E pc q.1 q.2 s = (eff E s q.1.type q.1.op).bind fun r => some ((({ s with objs := r.2 } : St RT den).kill (victim E s q.1.op)).put q.1.dst r.1) := by
  unfold doOp
  rw [hop]
  rfl
 rw [e, hv]
 rfl
theorem ape_eff {pc : Nat → List (D RT den) → Option (D RT den)} {ops : Array Oper} {fz : Nat → Bool} {q : Oper × Nat} {s s' : St RT den} (ha : apE fz q.1 = true) (ho : s.objs = s'.objs) (h : ∀ t ∈ q.1.looksAt ops, s.get t = s'.get t) : eff E s q.1.type q.1.op = eff E s' q.1.type q.1.op := by
 obtain ⟨hg, args, ts, t, y, hop, hxs, ht⟩ := ape_get ha
 rw [hop]
 refine (app_congr (pc := pc) ho (fun t x hx => ?_)).1
 cases x with
 | tmp i => exact h i (looksAt_op (by rw [hop]; simp [Op.operands, Call.operands]; simpa using hx))
 | const c => rfl
 | func f => rfl
 | global g => rfl
theorem swap_e {pc : Pr RT den} {ops : Array Oper} {fz : FzS} {p q : Oper × Nat} {s s1 s2 : St RT den} (hf : Fz E ops fz s) (hsw : swapE fz.cv fz.fz p.1 q.1 = true) (hap : p.1.apart ops q.1 = true) (h1 : stepOp E pc ops p s = some s1) (h2 : stepOp E pc ops q s1 = some s2) :
  ∃ s1', stepOp E pc ops q s = some s1' ∧ stepOp E pc ops p s1' = some s2 := by
 obtain ⟨a1, a2, a3⟩ := Oper.apart_spec hap
 have hz : ∀ t, fz.fz t = true → (s.get t).fzd = true := by
  intro t ht
  obtain ⟨⟨s0, g1, g2⟩, _⟩ := hf
  obtain ⟨n, hn⟩ := g1 t ht
  exact g2 n t hn
 simp only [swapE] at hsw
 rcases (Bool.or_eq_true _ _).mp hsw with hs | hs <;> obtain ⟨hp, hq⟩ := (Bool.and_eq_true _ _).mp hs
 ·rw [stepOp_still (bf_calm hp), Option.bind_eq_some_iff] at h1
  obtain ⟨d1, v1, e1⟩ := h1
  have e1 := Option.some.inj e1
  subst e1
  have look : ∀ t ∈ q.1.looksAt ops, (s.put p.1.dst d1).get t = s.get t := fun t ht => by
   cases hd : p.1.dst with
   | none => rfl
   | some d => exact get_put (fun e => a1 d hd (by rw [← e]; exact ht))
  rw [ape_step hq (fun t ht hl => by rw [look t hl]; exact hz t ht), Option.bind_eq_some_iff] at h2
  obtain ⟨r, v2, e2⟩ := h2
  have e2 := Option.some.inj e2
  subst e2
  have c2 : eff E s q.1.type q.1.op = some r := by
   rw [← v2]
   exact ape_eff (pc := pc.fn) (ops := ops) hq put_objs.symm (fun t ht => (look t ht).symm)
  have c1 : stepVal E pc.fn ops p (({ s with objs := r.2 } : St RT den).put q.1.dst r.1) = some d1 := by
   rw [← v1]
   refine (bf_congr hf hp (fun t ht => Eq.symm ?_)).symm
   cases hd : q.1.dst with
   | none => rfl
   | some d => exact get_put (s := ({ s with objs := r.2 } : St RT den)) (fun e => a3 d hd (by rw [← e]; exact ht))
  refine ⟨({ s with objs := r.2 } : St RT den).put q.1.dst r.1, by rw [ape_step hq (fun t ht _ => hz t ht), c2]; rfl, ?_⟩
  rw [stepOp_still (bf_calm hp), c1, put_with]
  simp only [Option.bind_some, Option.some.injEq]
  exact (put_comm a2).symm
 ·rw [ape_step hp (fun t ht _ => hz t ht), Option.bind_eq_some_iff] at h1
  rw [stepOp_still (bf_calm hq), Option.bind_eq_some_iff] at h2
  obtain ⟨r, v1, e1⟩ := h1
  obtain ⟨d2, v2, e2⟩ := h2
  have e1 := Option.some.inj e1
  have e2 := Option.some.inj e2
  subst e1; subst e2
  have c2 : stepVal E pc.fn ops q s = some d2 := by
   rw [← v2]
   refine bf_congr hf hq (fun t ht => ?_)
   cases hd : p.1.dst with
   | none => rfl
   | some d => exact (get_put (s := ({ s with objs := r.2 } : St RT den)) (fun e => a1 d hd (by rw [← e]; exact ht))).symm
  have look : ∀ t ∈ p.1.looksAt ops, (s.put q.1.dst d2).get t = s.get t := fun t ht => by
   cases hd : q.1.dst with
   | none => rfl
   | some d => exact get_put (fun e => a3 d hd (by rw [← e]; exact ht))
  have c1 : eff E (s.put q.1.dst d2) p.1.type p.1.op = some r := by
   rw [← v1]
   exact ape_eff (pc := pc.fn) (ops := ops) hp put_objs look
  refine ⟨s.put q.1.dst d2, by rw [stepOp_still (bf_calm hq), c2]; rfl, ?_⟩
  rw [ape_step hp (fun t ht hl => by rw [look t hl]; exact hz t ht), c1]
  simp only [Option.bind_some, Option.some.injEq]
  rw [put_with]
  exact (put_comm a2).symm
theorem uniqs_mem : ∀ {l acc : List Nat} {o : Nat}, o ∈ uniqs l acc → o ∈ l ∨ o ∈ acc
 | [], acc, o, h => .inr h
 | x :: l, acc, o, h => by
  unfold uniqs at h
  rw [Bool.cond_eq_ite] at h
  split at h
  ·rcases uniqs_mem h with h | h
   ·exact .inl (List.mem_cons_of_mem _ h)
   ·exact .inr h
  ·rcases uniqs_mem h with h | h
   ·exact .inl (List.mem_cons_of_mem _ h)
   ·rcases List.mem_append.1 h with h | h
    ·exact .inr h
    ·rw [List.mem_singleton] at h; exact .inl (by rw [h]; exact List.mem_cons_self ..)
theorem sc_ids {d : D RT den} (h : d.sc = true) : d.ids = [] := by cases d <;> first | rfl | (cases h; done)
theorem sp_ids {d : D RT den} (h : d.sp = true) : d.ids = [] := by cases d <;> first | rfl | (cases h; done)
theorem pure_ids1 {d : D RT den} (h : d.pure = true) : d.ids1 = [] := by cases d <;> first | rfl | (cases h; done)
theorem lent_k {os : List (Ob RT den)} {ds : List (D RT den)} {k : Nat} (hp : plOk os ds = true) (hk : ∀ d ∈ ds, ∀ o ∈ d.ids, o = k) {o : Nat} (h : o ∈ lentIds os ds) : o = k := by
 have hp : ∀ d ∈ ds, plArg os d = true ∨ d.sp = true := by
  cases ds with
  | nil => intro d hd; cases hd
  | cons d0 ds =>
   simp only [plOk, Bool.and_eq_true, List.all_eq_true] at hp
   intro d hd
   rcases List.mem_cons.1 hd with rfl | hd
   ·exact .inl hp.1
   ·exact .inr (hp.2 d hd)
 have one : ∀ o, o ∈ ds.flatMap D.ids → o = k := by
  intro o ho
  obtain ⟨d, hd, ho⟩ := List.mem_flatMap.1 ho
  exact hk d hd o ho
 unfold lentIds at h
 rcases uniqs_mem h with h | h
 ·obtain ⟨o1, h1, h2⟩ := List.mem_flatMap.1 h
  obtain ⟨d, hd, h1⟩ := List.mem_flatMap.1 h1
  exfalso
  rcases hp d hd with hpd | hpd
  rotate_left
  ·rw [sp_ids hpd] at h1; cases h1
  unfold plArg at hpd
  split at hpd
  ·rename_i o' off
   simp only [D.ids, D.ids1, List.mem_singleton] at h1
   subst h1
   cases hob : obj os o1 <;> rw [hob] at hpd h2 <;> try (cases hpd; done)
   rename_i l cs
   obtain ⟨c, hc, h3⟩ := List.mem_flatMap.1 h2
   rw [List.all_eq_true] at hpd
   rw [pure_ids1 (hpd c hc)] at h3
   cases h3
  ·rw [sc_ids hpd] at h1; cases h1
 ·rcases uniqs_mem h with h | h
  ·exact one o h
  ·cases h
theorem args_head {s : St RT den} {d : D RT den} {xs : List Operand} {ts : List Nat} (h : (E.args s ts xs).head? = some d) : ∃ x t, xs.head? = some x ∧ d = E.ev s t x := by
 cases xs with
 | nil => cases ts <;> simp [Env.args] at h
 | cons x xs =>
  cases ts <;> simp only [Env.args, List.head?_cons, Option.some.injEq] at h <;> exact ⟨x, _, rfl, h.symm⟩
theorem call_k {pc : Pr RT den} {os : List (Ob RT den)} {f : Nat} {ds : List (D RT den)} {r : D RT den × List (Ob RT den)} {k : Nat} (hln : pc.lend f = true) (hpl : pc.pl f = true) (hdp : pc.dp f = false) (hk0 : ∀ d, ds.head? = some d → ∀ o ∈ d.ids, o = k) (h : callX E pc os f ds = some r) : ∀ o, o ≠ k → o < os.length → obj r.2 o = obj os o := by
 intro o ho hlt
 unfold callX at h
 cases hgv : pc.gv f with
 | true => rw [hgv] at h; cases h
 | false =>
 rw [hgv, hdp, hpl] at h
 simp only [cond_false, Bool.true_and, plOk2, hln, cond_true] at h
 rw [← hln] at h
 cases hp : plOk os ds with
 | false => rw [hp] at h; cases h
 | true =>
  have hk : ∀ d ∈ ds, ∀ o ∈ d.ids, o = k := by
   cases ds with
   | nil => intro d hd; cases hd
   | cons d0 ds =>
    intro d hd o ho
    rcases List.mem_cons.1 hd with rfl | hd
    ·exact hk0 _ rfl o ho
    ·simp only [plOk, Bool.and_eq_true, List.all_eq_true] at hp
     rw [sp_ids (hp.2 d hd)] at ho; cases ho
  rw [hp, hln] at h
  simp only [Bool.not_true, cond_false, Option.bind_eq_some_iff] at h
  obtain ⟨y, hy, x, hx, hb⟩ := h
  simp only [argsX] at hy
  cases hq : lendOk os ds (lentIds os ds) with
  | false => rw [hq] at hy; cases hy
  | true =>
   rw [hq] at hy
   simp only [cond_true, Option.bind_eq_some_iff, Option.some.injEq] at hy
   obtain ⟨ins, _, rfl⟩ := hy
   simp only [backX] at hb
   rw [Bool.cond_eq_ite] at hb
   split at hb
   ·simp only [Option.bind_eq_some_iff, Option.some.injEq] at hb
    obtain ⟨os', hos, rfl⟩ := hb
    simp only [lendOk, Bool.and_eq_true] at hq
    obtain ⟨g1, _, g3, _⟩ := backs_get hq.1 hos
    have hni : o ∉ lentIds os ds := fun hm => ho (lent_k hp hk hm)
    unfold obj
    rw [List.getD_eq_getElem?_getD, List.getD_eq_getElem?_getD, List.getElem?_append_left (by omega), g3 o hni]
   ·cases hb
theorem kcall_spec {has gv lend dp pl : Nat → Bool} {kz : Bool → Nat → Nat → Bool} {k : Nat} {o : Oper} (h : kCall has gv lend dp pl kz k o = true) : isTurn has o.op = true ∧ ∃ f xs, xOf has o.op = some (f, xs) ∧ lend f = true ∧ pl f = true ∧ dp f = false ∧ ∀ x, xs.head? = some x → (∃ t, x = .tmp t ∧ kz true k t = true) ∨ ∃ c, x = .const c := by
 unfold kCall at h
 split at h
 ·rename_i f xs hx
  simp only [Bool.and_eq_true, Bool.not_eq_true'] at h
  obtain ⟨h1, h2, h3, h4⟩ := h
  refine ⟨?_, f, xs, hx, h1, h2, h3, fun x hxm => ?_⟩
  ·obtain ⟨args, ts, ho, _⟩ := xOf_call hx
   rw [ho] at hx ⊢
   simp only [isTurn, hx, Option.isSome_some, Bool.or_true]
  ·split at h4
   ·simp only [List.head?_cons, Option.some.injEq] at hxm
    exact .inl ⟨_, hxm.symm, h4⟩
   ·simp only [List.head?_cons, Option.some.injEq] at hxm
    exact .inr ⟨_, hxm.symm⟩
   ·simp at hxm
   ·cases h4
 ·cases h
theorem eff_k {pc : Pr RT den} {ops : Array Oper} {q : Oper × Nat} {s : St RT den} {kz : Bool → Nat → Nat → Bool} {k n : Nat} (hc : kCall pc.has pc.gv pc.lend pc.dp pc.pl kz k q.1 = true) (hz : ∀ t, kz true k t = true → t ∈ q.1.looksAt ops → D.kd true n k (s.get t) = true) {r : D RT den × List (Ob RT den)} (h : stepEff E pc ops q s = some r) : ∀ o, o ≠ k → o < s.objs.length → obj r.2 o = obj s.objs o := by
 obtain ⟨_, f, xs, hx, h1, h2, h3, h4⟩ := kcall_spec hc
 have ht : ∀ {r}, turn E pc s q.1.type q.1.op = some r → ∀ o, o ≠ k → o < s.objs.length → obj r.2 o = obj s.objs o := by
  intro r hr
  unfold turn at hr
  rw [hx] at hr
  refine call_k h1 h2 h3 (fun d hd o ho => ?_) hr
  obtain ⟨x, t, hxh, rfl⟩ := args_head hd
  have hxm : x ∈ xs := List.mem_of_mem_head? hxh
  rcases h4 x hxh with ⟨i, rfl, hi⟩ | ⟨c, rfl⟩
  ·have hm : i ∈ q.1.looksAt ops := by
    obtain ⟨args, ts, hop, rfl⟩ := xOf_call hx
    exact looksAt_op (by rw [hop]; simp only [Op.operands, Call.operands]; simpa using hxm)
   have := hz i hi hm
   rw [ev_tmp] at ho
   cases hs : s.get i <;> rw [hs] at this ho <;> first | (cases this; done) | (cases ho; done) | skip
   simp only [D.ids, D.ids1, List.mem_singleton] at ho
   simp only [D.kd, cond_true] at this
   have := Nat.eq_of_beq_eq_true this
   omega
  ·exfalso
   have : (E.ev s t (.const c)).ids = [] := by
    simp only [Env.ev, ofValue]
    split <;> first | rfl | (split <;> rfl)
   rw [this] at ho; cases ho
 unfold stepEff at h
 split at h
 ·exact ht h
 ·split at h
  ·split at h
   ·rw [Bool.cond_eq_ite] at h
    split at h
    ·exact ht h
    ·have h := Option.some.inj h; subst h; intros; rfl
   ·have h := Option.some.inj h; subst h; intros; rfl
   ·cases h
  ·cases h
theorem loadVal {pc : Nat → List (D RT den) → Option (D RT den)} {ops : Array Oper} {p : Oper × Nat} {s s' : St RT den} {kz : Bool → Nat → Nat → Bool} {k n : Nat} (hb : kLoad kz k p.1 = true) (hz : ∀ t, kz false k t = true → D.kd false n k (s.get t) = true) (ho : ∀ o, o ≠ k → o < n → obj s'.objs o = obj s.objs o) (h : ∀ t ∈ p.1.looksAt ops, s.get t = s'.get t) : stepVal E pc ops p s = stepVal E pc ops p s' := by
 have hval : val E pc s p.2 p.1.type p.1.op = val E pc s' p.2 p.1.type p.1.op := by
  have hl := fun t (ht : Operand.tmp t ∈ p.1.op.operands.toList) => h t (looksAt_op ht)
  unfold kLoad at hb
  split at hb
  ·rename_i ty t hop
   rw [hop] at hl ⊢
   have hq := hz t hb
   simp only [val, ev_tmp]
   rw [← hl t (by simp [Op.operands])]
   cases hd : s.get t <;> rw [hd] at hq <;> try (cases hq; done)
   ·rfl
   ·rfl
   ·rename_i o off
    simp only [D.kd, cond_false, Bool.and_eq_true, Bool.not_eq_true', Nat.blt_eq] at hq
    have hne : o ≠ k := fun e => by rw [e] at hq; simp at hq
    simp only [load, cellsAt, dload, ho o hne hq.1]
   ·rfl
   ·rfl
  ·cases hb
 unfold stepVal
 split
 ·exact hval
 ·rename_i j want hg
  split
  ·rename_i t ht
   have hm : t ∈ p.1.looksAt ops := by
    simp only [Oper.looksAt, hg, List.mem_append]
    right
    unfold dstOf at ht
    simp [ht]
   rw [h t hm, hval]
  ·rfl
theorem kload_calm {has gv : Nat → Bool} {kz : Bool → Nat → Nat → Bool} {k : Nat} {o : Oper} (h : kLoad kz k o = true) : calm has gv o.op = true := by
 unfold kLoad at h
 split at h
 ·rename_i hop; rw [hop]; rfl
 ·cases h
theorem swap_k {pc : Pr RT den} {ops : Array Oper} {fz : FzS} {p q : Oper × Nat} {s s1 s2 : St RT den} (hf : Fz E ops fz s) (hsw : swapK pc.has pc.gv pc.lend pc.dp pc.pl fz.kz p.1 q.1 = true) (hap : p.1.apart ops q.1 = true) (h1 : stepOp E pc ops p s = some s1) (h2 : stepOp E pc ops q s1 = some s2) :
  ∃ s1', stepOp E pc ops q s = some s1' ∧ stepOp E pc ops p s1' = some s2 := by
 obtain ⟨a1, a2, a3⟩ := Oper.apart_spec hap
 obtain ⟨_, _, ⟨n, hn, hfk⟩, _⟩ := hf
 have hz : ∀ b k t, fz.kz b k t = true → D.kd b n k (s.get t) = true := by
  intro b k t ht
  obtain ⟨s0, g1, g2⟩ := hfk b k
  obtain ⟨m, hm⟩ := g1 t ht
  exact g2 m t hm
 unfold swapK at hsw
 rw [List.any_eq_true] at hsw
 obtain ⟨k, _, hsw⟩ := hsw
 rcases (Bool.or_eq_true _ _).mp hsw with hs | hs <;> obtain ⟨hp, hq⟩ := (Bool.and_eq_true _ _).mp hs
 ·have hqt := (kcall_spec hq).1
  rw [stepOp_still (kload_calm hp), Option.bind_eq_some_iff] at h1
  rw [stepOp_store hqt, Option.bind_eq_some_iff] at h2
  obtain ⟨d1, v1, e1⟩ := h1
  obtain ⟨r, v2, e2⟩ := h2
  have e1 := Option.some.inj e1
  have e2 := Option.some.inj e2
  subst e1; subst e2
  have c2 : stepEff E pc ops q s = some r := by
   rw [← v2]
   refine stepEff_congr hqt put_objs.symm (fun t ht => ?_)
   cases hd : p.1.dst with
   | none => rfl
   | some d => exact (get_put (fun e => a1 d hd (by rw [← e]; exact ht))).symm
  have hob := eff_k (n := n) hq (fun t ht _ => hz true k t ht) c2
  have c1 : stepVal E pc.fn ops p (({ s with objs := r.2 } : St RT den).put q.1.dst r.1) = some d1 := by
   rw [← v1]
   refine (loadVal (n := n) hp (fun t ht => hz false k t ht) (fun o ho hlt => ?_) (fun t ht => Eq.symm ?_)).symm
   ·rw [put_objs]; exact hob o ho (by omega)
   ·cases hd : q.1.dst with
    | none => rfl
    | some d => exact get_put (s := ({ s with objs := r.2 } : St RT den)) (fun e => a3 d hd (by rw [← e]; exact ht))
  refine ⟨({ s with objs := r.2 } : St RT den).put q.1.dst r.1, by rw [stepOp_store hqt, c2]; rfl, ?_⟩
  rw [stepOp_still (kload_calm hp), c1, put_with]
  simp only [Option.bind_some, Option.some.injEq]
  exact (put_comm a2).symm
 ·have hpt := (kcall_spec hp).1
  rw [stepOp_store hpt, Option.bind_eq_some_iff] at h1
  rw [stepOp_still (kload_calm hq), Option.bind_eq_some_iff] at h2
  obtain ⟨r, v1, e1⟩ := h1
  obtain ⟨d2, v2, e2⟩ := h2
  have e1 := Option.some.inj e1
  have e2 := Option.some.inj e2
  subst e1; subst e2
  have hob := eff_k (n := n) hp (fun t ht _ => hz true k t ht) v1
  have c2 : stepVal E pc.fn ops q s = some d2 := by
   rw [← v2]
   refine loadVal (n := n) hq (fun t ht => hz false k t ht) (fun o ho hlt => ?_) (fun t ht => ?_)
   ·rw [put_objs]; exact hob o ho (by omega)
   ·cases hd : p.1.dst with
    | none => rfl
    | some d => exact (get_put (s := ({ s with objs := r.2 } : St RT den)) (fun e => a1 d hd (by rw [← e]; exact ht))).symm
  have c1 : stepEff E pc ops p (s.put q.1.dst d2) = some r := by
   rw [← v1]
   refine stepEff_congr hpt put_objs (fun t ht => ?_)
   cases hd : q.1.dst with
   | none => rfl
   | some d => exact get_put (fun e => a3 d hd (by rw [← e]; exact ht))
  refine ⟨s.put q.1.dst d2, by rw [stepOp_still (kload_calm hq), c2]; rfl, ?_⟩
  rw [stepOp_store hpt, c1]
  simp only [Option.bind_some, Option.some.injEq]
  rw [put_with]
  exact (put_comm a2).symm
theorem nx_nxs {d : D RT den} {o : Nat} (h : d.nx o = false) : d.nxs o = false := by
 cases d <;> first | exact h | rfl | (cases h; done) | skip
 rename_i f cap
 cases cap with
 | nil => rfl
 | cons c l => cases h
theorem sp_nx {d : D RT den} {o : Nat} (h : d.sp = true) : d.nx o = false := by
 cases d <;> first | rfl | (cases h; done)
theorem ofCells_nxs {g : Bool} {cs : List (D RT den)} {d : D RT den} {o : Nat} (hc : ∀ c ∈ cs, c.nx o = false) (h : ofCells g cs = some d) : d.nxs o = false := by
 cases g with
 | true =>
  have h := Option.some.inj h; subst h
  simp only [D.nxs, List.any_eq_false]
  exact fun c hm => by rw [hc c hm]; decide
 | false =>
  match cs, h with
  | [c], h =>
   have h := Option.some.inj h; subst h
   exact nx_nxs (hc _ (by simp))
theorem sub_mem {cs l : List (D RT den)} {off n : Nat} (h : sub cs off n = some l) {c : D RT den} (hc : c ∈ l) : c ∈ cs := by
 unfold sub at h
 split at h
 ·have h := Option.some.inj h; subst h
  exact List.mem_of_mem_drop (List.mem_of_mem_take hc)
 ·cases h
theorem callG_obj {pc : Pr RT den} {os : List (Ob RT den)} {f : Nat} {ds : List (D RT den)} {r : Option Nat × D RT den × List (Ob RT den)} (h : callG E pc os f ds = some r) :
  (∀ o', r.1 ≠ some o' → o' < os.length → obj r.2.2 o' = obj os o') ∧ ∀ o, r.1 = some o → clearS o os = true := by
 unfold callG at h
 cases hg : pc.gv f with
 | false => rw [hg] at h; cases h
 | true =>
  rw [hg] at h
  simp only [cond_true, Option.bind_eq_some_iff, Option.some.injEq] at h
  obtain ⟨y, hy, x, hx, z, hz, rfl⟩ := h
  dsimp only
  have hcl : ∀ o, y.1 = some o → clearS o os = true := by
   intro o ho
   unfold argG at hy
   split at hy
   ·rename_i o1 len ds1
    cases hq : ds1.all D.sc && clearS o1 os with
    | false => rw [hq] at hy; cases hy
    | true =>
     rw [hq] at hy
     simp only [cond_true] at hy
     split at hy
     ·have hy := Option.some.inj hy; subst hy
      have ho := Option.some.inj ho; subst ho
      simp only [Bool.and_eq_true] at hq
      exact hq.2
     ·cases hy
   ·rename_i ds1
    cases hq : ds1.all D.sc with
    | false => rw [hq] at hy; cases hy
    | true => rw [hq] at hy; have hy := Option.some.inj hy; subst hy; cases ho
   ·cases hy
  refine ⟨fun o' ho' hl => ?_, hcl⟩
  unfold backG at hz
  split at hz
  ·rename_i len τ n g
   cases hq : E.scl τ with
   | false => rw [hq] at hz; cases hz
   | true =>
    rw [hq] at hz
    simp only [cond_true] at hz
    split at hz
    ·rename_i o hv
     have hz := Option.some.inj hz; subst hz
     unfold obj
     simp only [List.getD_eq_getElem?_getD]
     rw [List.getElem?_set_ne (fun e => ho' (by rw [hv, e]))]
    ·have hz := Option.some.inj hz; subst hz
     unfold obj
     simp only [List.getD_eq_getElem?_getD]
     rw [List.getElem?_append_left hl]
  ·cases hz
theorem load_given {pc : Nat → List (D RT den) → Option (D RT den)} {s s1 : St RT den} {v : Option Nat} {al ty t ty' : Nat} {d : D RT den} {n : Nat} (hn : n ≤ s.objs.length) (hg : D.gd n (s.get t) = true)
  (hob : ∀ o', v ≠ some o' → o' < s.objs.length → obj s1.objs o' = obj s.objs o') (hcl : ∀ o, v = some o → clearS o s.objs = true) (hs : s1.get t = (s.kill v).get t)
  (h : val E pc s1 al ty (.load ty' (.tmp t)) = some d) : val E pc s al ty (.load ty' (.tmp t)) = some d ∧ ∀ o, v = some o → d.nxs o = false := by
 simp only [val, ev_tmp] at h ⊢
 rw [hs] at h
 have hsame : s.get t = .q ∨ (s.kill v).get t = s.get t ∧ ∀ o, v = some o → (s.get t).nxs o = false := by
  cases v with
  | none => exact .inr ⟨rfl, fun o ho => by cases ho⟩
  | some o =>
   rw [get_killed] at h ⊢
   cases hq : (s.get t).nxs o with
   | true => rw [hq] at h; cases h
   | false => exact .inr ⟨rfl, fun o' ho' => by have := Option.some.inj ho'; subst this; exact hq⟩
 rcases hsame with hd | ⟨he, hnx⟩
 ·exfalso
  have : (s.kill v).get t = .q := by
   cases v with
   | none => exact hd
   | some o => rw [get_killed, hd]; rfl
  rw [this] at h
  cases h
 rw [he] at h
 cases hq : s.get t <;> rw [hq] at hg h hnx <;> try (cases hg; done)
 case undef => cases h
 case q => cases h
 case emp z τ => cases h
 case rptr cs =>
  have e : load E s1.objs ty' (.rptr cs) = load E s.objs ty' (.rptr cs) := rfl
  have e2 : dload E s1.objs ty' (.rptr cs) = dload E s.objs ty' (.rptr cs) := rfl
  rw [e, e2] at h
  refine ⟨h, fun o ho => ?_⟩
  cases hl : load E s.objs ty' (.rptr cs) with
  | none => rw [hl] at h; cases h
  | some d' =>
   rw [hl] at h
   have h := Option.some.inj h; subst h
   simp only [load, cellsAt, Option.bind_eq_some_iff, Option.some.injEq] at hl
   obtain ⟨cs', rfl, m, _, l, hsub, g, _, hof⟩ := hl
   exact ofCells_nxs (fun c hc => sp_nx (List.all_eq_true.mp hg c (sub_mem hsub hc))) hof
 case ref o' off =>
  have hlt : o' < n := by simpa [D.gd, Nat.blt_eq] using hg
  have hne : v ≠ some o' := fun e => by
   have := hnx o' e
   simp [D.nxs] at this
  have hob := hob o' hne (by omega)
  have e : load E s1.objs ty' (.ref o' off) = load E s.objs ty' (.ref o' off) := by
   simp only [load, cellsAt, hob]
  have e2 : dload E s1.objs ty' (.ref o' off) = dload E s.objs ty' (.ref o' off) := rfl
  rw [e, e2] at h
  refine ⟨h, fun o ho => ?_⟩
  cases hl : load E s.objs ty' (.ref o' off) with
  | none => rw [hl] at h; cases h
  | some d' =>
   rw [hl] at h
   have h := Option.some.inj h; subst h
   simp only [load, cellsAt, Option.bind_eq_some_iff] at hl
   obtain ⟨cs', hcs, m, _, l, hsub, g, _, hof⟩ := hl
   have hc := hcl o ho
   unfold clearS at hc
   rw [List.all_eq_true] at hc
   split at hcs
   ·rename_i lf cs hb
    cases hbl : Nat.blt off cs.length with
    | false => rw [hbl] at hcs; cases hcs
    | true =>
     rw [hbl] at hcs
     have hcs := Option.some.inj hcs; subst hcs
     have hmem : (Ob.box lf cs) ∈ s.objs := by
      unfold obj at hb
      rw [List.getD_eq_getElem?_getD, List.getElem?_eq_getElem (by omega), Option.getD_some] at hb
      rw [← hb]; exact List.getElem_mem _
     have hc := hc _ hmem
     simp only [List.all_eq_true, Bool.not_eq_true'] at hc
     exact ofCells_nxs (fun c hm => hc c (List.mem_of_mem_drop (sub_mem hsub hm))) hof
   ·cases hcs
theorem conv_gd {pc : Nat → List (D RT den) → Option (D RT den)} {s s1 : St RT den} {v : Option Nat} {al ty t a b : Nat} {d : D RT den} {n : Nat} (hg : D.gd n (s.get t) = true) (hs : s1.get t = (s.kill v).get t)
  (h : val E pc s1 al ty (.convert a b (.tmp t)) = some d) : val E pc s al ty (.convert a b (.tmp t)) = some d ∧ ∀ o, d.nxs o = false := by
 simp only [val, ev_tmp] at h ⊢
 rw [hs] at h
 have key : (s.kill v).get t = s.get t ∨ (s.kill v).get t = .q := by
  cases v with
  | none => exact .inl rfl
  | some o =>
   rw [get_killed]
   cases (s.get t).nxs o
   ·exact .inl rfl
   ·exact .inr rfl
 split at h
 ·rename_i k0 hk0
  simp only [Option.bind_eq_some_iff] at h ⊢
  obtain ⟨k, hk1, h⟩ := h
  rcases key with e | e <;> rw [e] at h
  ·refine ⟨⟨k, hk1, ?_⟩, fun o => ?_⟩
   ·cases hq : s.get t <;> rw [hq] at hg h <;> first | (cases hg; done) | (cases h; done) | exact h
   ·cases hq : s.get t <;> rw [hq] at hg h <;> first | (cases hg; done) | (cases h; done)
  ·cases h
 ·simp only [Option.bind_eq_some_iff] at h ⊢
  obtain ⟨e0, he0, ke, hke, h⟩ := h
  cases hc : decide (ke = .u8) && E.est b with
  | false => rw [hc] at h; cases h
  | true =>
   rw [hc] at h
   simp only [cond_true] at h
   rcases key with e | e <;> rw [e] at h
   ·refine ⟨⟨e0, he0, ke, hke, ?_⟩, fun o => ?_⟩
    ·rw [hc]
     cases hq : s.get t <;> rw [hq] at hg h <;> first | (cases hg; done) | (cases h; done) | exact h
    ·cases hq : s.get t <;> rw [hq] at hg h <;> first | (cases hg; done) | (cases h; done) | (have h := Option.some.inj h; subst h; rfl)
   ·cases h
theorem gbare_bare {cv : Nat → Bool} {op : Op} (h : gBare cv op = true) : bare op = true := by
 cases op <;> first | rfl | (cases h; done) | skip
 rename_i c
 obtain ⟨callee, args, argTypes⟩ := c
 cases callee <;> first | (cases h; done) | skip
 rename_i b
 cases b <;> first | rfl | (cases h; done)
theorem swap_g (hE : Ok E P) {pc : Pr RT den} {ops : Array Oper} {fz : FzS} {p q : Oper × Nat} {s s1 s2 : St RT den} (hf : Fz E ops fz s) (hsw : swapG pc.has pc.gv fz.cv fz.gz p.1 q.1 = true) (hap : p.1.apart ops q.1 = true) (h1 : stepOp E pc ops p s = some s1) (h2 : stepOp E pc ops q s1 = some s2) :
  ∃ s1', stepOp E pc ops q s = some s1' ∧ stepOp E pc ops p s1' = some s2 := by
 obtain ⟨a1, a2, a3⟩ := Oper.apart_spec hap
 obtain ⟨_, ⟨n, hn, _, hgz, _⟩, _, hcv⟩ := hf
 simp only [swapG, Bool.and_eq_true, Option.isNone_iff_eq_none] at hsw
 obtain ⟨⟨pg, qg⟩, ⟨hnh, hgv⟩, hq⟩ := hsw
 obtain ⟨⟨f, xs⟩, hx⟩ := Option.isSome_iff_exists.1 hgv
 have pst : ∀ s, doOp E pc p.1 p.2 s = (callG E pc s.objs f (E.args s (E.par f) xs)).bind fun r => some ((({ s with objs := r.2.2 } : St RT den).kill r.1).put p.1.dst r.2.1) := fun s => by
  unfold doOp
  rw [hnh, hx]
 have hqc : calm pc.has pc.gv q.1.op = true := by
  rcases (Bool.or_eq_true _ _).mp hq with hq | hq
  ·exact bare_calm (gbare_bare hq)
  ·exact fz_calm hq
 obtain ⟨qs, qh, qv⟩ := calm_x hqc
 have qst : ∀ s, doOp E pc q.1 q.2 s = (val E pc.fn s q.2 q.1.type q.1.op).bind fun d => some (s.put q.1.dst d) := fun s => by
  unfold doOp
  rw [qh, qv, qs]
  rfl
 simp only [stepOp, pg, qg] at h1 h2 ⊢
 rw [pst, Option.bind_eq_some_iff] at h1
 obtain ⟨r, hr, h1⟩ := h1
 have h1 := Option.some.inj h1; subst h1
 rw [qst, Option.bind_eq_some_iff] at h2
 obtain ⟨d1, hd1, h2⟩ := h2
 have h2 := Option.some.inj h2; subst h2
 obtain ⟨hob, hcl⟩ := callG_obj hr
 have key : ∃ d0, val E pc.fn s q.2 q.1.type q.1.op = some d0 ∧ d1 = match r.1 with | some o => bif d0.nxs o then .q else d0 | none => d0 := by
  rcases (Bool.or_eq_true _ _).mp hq with hb | hb
  ·have hcv' : ∀ t u x, q.1.op = .convert t u x → (E.ik t).isSome = true := fun t u x e => by
    rw [e] at hb
    exact hcv t hb
   have e1 : val E pc.fn ((({ s with objs := r.2.2 } : St RT den).kill r.1).put p.1.dst r.2.1) q.2 q.1.type q.1.op = val E pc.fn (s.kill r.1) q.2 q.1.type q.1.op := by
    refine bare_val (gbare_bare hb) hcv' (fun t x hx => ?_)
    cases x with
    | tmp i =>
     rw [ev_tmp, ev_tmp]
     have : (({ s with objs := r.2.2 } : St RT den).kill r.1).get i = (s.kill r.1).get i := by cases r.1 <;> rfl
     rw [← this]
     cases hd : p.1.dst with
     | none => rfl
     | some d => exact get_put (fun e => a1 d hd (by rw [← e]; exact looksAt_op hx))
    | const c => rfl
    | func f => rfl
    | global g => rfl
   rw [e1] at hd1
   cases hv : r.1 with
   | none => rw [hv] at hd1; exact ⟨d1, hd1, rfl⟩
   | some o => rw [hv] at hd1; exact val_kill hE hcv hb hd1
  ·cases hop : q.1.op <;> rw [hop] at hb hd1 <;> try (cases hb; done)
   case convert t0 u0 x =>
    cases x <;> try (cases hb; done)
    rename_i t
    obtain ⟨s0, g1, g2⟩ := hgz
    obtain ⟨m, hm⟩ := g1 t hb
    have hgd := g2 m t hm
    have hs1 : ((({ s with objs := r.2.2 } : St RT den).kill r.1).put p.1.dst r.2.1).get t = (s.kill r.1).get t := by
     have : (({ s with objs := r.2.2 } : St RT den).kill r.1).get t = (s.kill r.1).get t := by cases r.1 <;> rfl
     rw [← this]
     cases hd : p.1.dst with
     | none => rfl
     | some d => exact get_put (fun e => a1 d hd (by rw [← e]; exact looksAt_op (by rw [hop]; simp [Op.operands])))
    obtain ⟨c1, c2⟩ := conv_gd hgd hs1 hd1
    refine ⟨d1, c1, ?_⟩
    cases r.1 with
    | none => rfl
    | some o => dsimp only; rw [c2 o]; rfl
   rename_i ty' x
   cases x <;> try (cases hb; done)
   rename_i t
   obtain ⟨s0, g1, g2⟩ := hgz
   obtain ⟨m, hm⟩ := g1 t hb
   have hgd := g2 m t hm
   obtain ⟨c1, c2⟩ := load_given hn hgd (v := r.1) (s1 := (({ s with objs := r.2.2 } : St RT den).kill r.1).put p.1.dst r.2.1) (by rw [put_objs]; have e : (({ s with objs := r.2.2 } : St RT den).kill r.1).objs = r.2.2 := (by cases r.1 <;> rfl); rw [e]; exact hob) hcl (by
    have : (({ s with objs := r.2.2 } : St RT den).kill r.1).get t = (s.kill r.1).get t := by cases r.1 <;> rfl
    rw [← this]
    cases hd : p.1.dst with
    | none => rfl
    | some d => exact get_put (fun e => a1 d hd (by rw [← e]; exact looksAt_op (by rw [hop]; simp [Op.operands])))) hd1
   refine ⟨d1, c1, ?_⟩
   cases hv : r.1 with
   | none => rfl
   | some o => dsimp only; rw [c2 o hv]; rfl
 obtain ⟨d0, v0, hd0⟩ := key
 refine ⟨s.put q.1.dst d0, by rw [qst, v0]; rfl, ?_⟩
 have ea : E.args (s.put q.1.dst d0) (E.par f) xs = E.args s (E.par f) xs := by
  refine args_congr _ _ (fun t x hm => ?_)
  cases x with
  | tmp i =>
   cases hd : q.1.dst with
   | none => rfl
   | some d =>
    refine get_put (fun e => a3 d hd ?_)
    rw [← e]
    obtain ⟨args, ts, hop, rfl⟩ := xOf_call hx
    exact looksAt_op (by rw [hop]; simp only [Op.operands, Call.operands, Array.toList_append, List.mem_append]; exact .inr hm)
  | const c => rfl
  | func f => rfl
  | global g => rfl
 rw [pst, ea, put_objs, hr]
 simp only [Option.bind_some, Option.some.injEq]
 have e0 : ({ s.put q.1.dst d0 with objs := r.2.2 } : St RT den) = ({ s with objs := r.2.2 } : St RT den).put q.1.dst d0 := put_with
 rw [e0, kill_put, hd0]
 exact (put_comm a2).symm
theorem absorb_box {o : Nat} : ∀ {cs : List (D RT den)} {os : List (Ob RT den)} {r : Bool × List (D RT den) × List (Ob RT den)}, absorb E o os cs = some r → ∀ o' l bs, obj os o' = .box l bs → obj r.2.2 o' = .box l bs:= fun h => by simp [absorb] at h
theorem kill_obj {os : List (Ob RT den)} {o o' : Nat} {l : Bool} {bs : List (D RT den)} (h : obj os o' = .box l bs) : obj (os.map (Ob.kill o)) o' = .box l (bs.map (D.kill1 o)) := by
 unfold obj at h ⊢
 simp only [List.getD_eq_getElem?_getD, List.getElem?_map] at h ⊢
 cases hq : os[o']? with
 | none => rw [hq] at h; cases h
 | some ob => rw [hq] at h; simp only [Option.getD_some] at h; subst h; rfl
theorem obj_set_box {os : List (Ob RT den)} {o o' : Nat} {l : Bool} {bs : List (D RT den)} {ob : Ob RT den} (hne : ∀ l' bs', obj os o ≠ .box l' bs') (h : obj os o' = .box l bs) : obj (os.set o ob) o' = .box l bs := by
 unfold obj at h hne ⊢
 simp only [List.getD_eq_getElem?_getD] at h hne ⊢
 rw [List.getElem?_set_ne (fun e => hne l bs (by rw [e]; exact h))]
 exact h
theorem obj_app_box {os outs : List (Ob RT den)} {o' : Nat} {l : Bool} {bs : List (D RT den)} (h : obj os o' = .box l bs) : obj (os ++ outs) o' = .box l bs := by
 unfold obj at h ⊢
 simp only [List.getD_eq_getElem?_getD] at h ⊢
 cases hq : os[o']? with
 | none => rw [hq] at h; cases h
 | some ob => rw [List.getElem?_append_left (List.getElem?_eq_some_iff.1 hq).1, hq]; rw [hq] at h; exact h
theorem app_box {os : List (Ob RT den)} {z by' : Nat} {dx dy : D RT den} {r : Bool × D RT den × List (Ob RT den)} (h : appendTo E os z by' dx dy = some r) :
  (∀ o' l bs, obj os o' = .box l bs → obj r.2.2 o' = match (match dx with | .os o _ => some o | _ => none) with | some o => .box l (bs.map (D.kill1 o)) | none => .box l bs) ∧ ∀ o len, dx = .os o len → clear o os = true := by
 unfold appendTo at h
 split at h
 ·rename_i o len z0 τ m g
  cases hc : clear o os with
  | false => rw [hc] at h; cases h
  | true =>
   rw [hc] at h
   simp only [cond_true] at h
   split at h
   ·rename_i τ' n f hob
    split at h
    ·cases h
    ·split at h
     ·have h := Option.some.inj h; subst h
      refine ⟨fun o' l bs hb => ?_, fun o1 l1 e => by cases e; exact hc⟩
      exact kill_obj (obj_set_box (fun l' bs' e => by rw [hob] at e; cases e) hb)
     ·cases h
   ·cases h
 ·rename_i z0 τ' z1 τ m g
  split at h
  ·cases h
  ·split at h
   ·have h := Option.some.inj h; subst h
    exact ⟨fun o' l bs hb => obj_app_box hb, fun o1 l1 e => by cases e⟩
   ·cases h
 ·rename_i o len τ cs
  cases hc : clear o os with
  | false => rw [hc] at h; cases h
  | true =>
   rw [hc] at h
   simp only [cond_true] at h
   split at h
   ·rename_i τ' n p f hob
    split at h
    ·cases h
    ·split at h
     ·simp only [Option.bind_eq_some_iff, Option.some.injEq] at h
      obtain ⟨r1, h1, y, hy, rfl⟩ := h
      refine ⟨fun o' l bs hb => ?_, fun o1 l1 e => by cases e; exact hc⟩
      have hb1 := absorb_box h1 o' l bs hb
      refine kill_obj ?_
      by_cases he : o = o'
      ·subst he; rw [hob] at hb; cases hb
      ·unfold obj at hb1 ⊢
       simp only [List.getD_eq_getElem?_getD] at hb1 ⊢
       rw [List.getElem?_set_ne he]; exact hb1
     ·cases h
   ·cases h
 ·rename_i z0 τ' τ cs
  split at h
  ·cases h
  ·split at h
   ·simp only [Option.bind_eq_some_iff, Option.some.injEq] at h
    obtain ⟨r1, h1, y, hy, rfl⟩ := h
    exact ⟨fun o' l bs hb => obj_app_box (absorb_box h1 o' l bs hb), fun o1 l1 e => by cases e⟩
   ·cases h
 ·cases h
theorem kill_nobox {os : List (Ob RT den)} {o o' : Nat} {l : Bool} {bs : List (D RT den)} (h : obj (os.map (Ob.kill o)) o' = .box l bs) : ∃ bs0, obj os o' = .box l bs0 := by
 unfold obj at h ⊢
 simp only [List.getD_eq_getElem?_getD, List.getElem?_map] at h ⊢
 cases hq : os[o']? with
 | none => rw [hq] at h; cases h
 | some ob =>
  rw [hq] at h
  simp only [Option.map_some, Option.getD_some] at h ⊢
  cases ob <;> first | (cases h; done) | (simp only [Ob.kill, Ob.box.injEq] at h; exact ⟨_, by rw [h.1]⟩)
theorem set_nobox {os : List (Ob RT den)} {o o' : Nat} {l : Bool} {bs : List (D RT den)} {ob : Ob RT den} (hne : ∀ l' bs', ob ≠ .box l' bs') (h : obj (os.set o ob) o' = .box l bs) : obj os o' = .box l bs := by
 unfold obj at h ⊢
 simp only [List.getD_eq_getElem?_getD] at h ⊢
 by_cases he : o = o'
 ·subst he
  by_cases hl : o < os.length
  ·rw [List.getElem?_set_self hl] at h; exact absurd h (hne _ _)
  ·rw [List.getElem?_eq_none (by simp; omega)] at h; cases h
 ·rw [List.getElem?_set_ne he] at h; exact h
theorem absorb_nobox {o : Nat} : ∀ {cs : List (D RT den)} {os : List (Ob RT den)} {r : Bool × List (D RT den) × List (Ob RT den)}, absorb E o os cs = some r → ∀ o' l bs, obj r.2.2 o' = .box l bs → obj os o' = .box l bs:= fun h => by simp [absorb] at h
theorem app_left {os outs : List (Ob RT den)} {o' : Nat} (hl : o' < os.length) : obj (os ++ outs) o' = obj os o' := by
 unfold obj
 simp only [List.getD_eq_getElem?_getD]
 rw [List.getElem?_append_left hl]
theorem app_nobox {os : List (Ob RT den)} {z by' : Nat} {dx dy : D RT den} {r : Bool × D RT den × List (Ob RT den)} (h : appendTo E os z by' dx dy = some r) :
  ∀ o' l bs, o' < os.length → obj r.2.2 o' = .box l bs → ∃ bs0, obj os o' = .box l bs0 := by
 unfold appendTo at h
 split at h
 ·rename_i o len z0 τ m g
  cases hc : clear o os with
  | false => rw [hc] at h; cases h
  | true =>
   rw [hc] at h
   simp only [cond_true] at h
   split at h
   ·split at h
    ·cases h
    ·split at h
     ·have h := Option.some.inj h; subst h
      intro o' l bs hl hb
      obtain ⟨bs0, hb0⟩ := kill_nobox hb
      exact ⟨bs0, set_nobox (fun _ _ e => by cases e) hb0⟩
     ·cases h
   ·cases h
 ·split at h
  ·cases h
  ·split at h
   ·have h := Option.some.inj h; subst h
    intro o' l bs hl hb
    dsimp only at hb
    rw [app_left hl] at hb
    exact ⟨bs, hb⟩
   ·cases h
 ·rename_i o len τ cs
  cases hc : clear o os with
  | false => rw [hc] at h; cases h
  | true =>
   rw [hc] at h
   simp only [cond_true] at h
   split at h
   ·split at h
    ·cases h
    ·split at h
     ·simp only [Option.bind_eq_some_iff, Option.some.injEq] at h
      obtain ⟨r1, h1, y, hy, rfl⟩ := h
      intro o' l bs hl hb
      obtain ⟨bs0, hb0⟩ := kill_nobox hb
      exact ⟨bs0, absorb_nobox h1 o' l bs0 (set_nobox (fun _ _ e => by cases e) hb0)⟩
     ·cases h
   ·cases h
 ·split at h
  ·cases h
  ·split at h
   ·simp only [Option.bind_eq_some_iff, Option.some.injEq] at h
    obtain ⟨r1, h1, y, hy, rfl⟩ := h
    intro o' l bs hl hb
    dsimp only at hb
    rw [app_left (by rw [absorb_len h1]; exact hl)] at hb
    exact ⟨bs, absorb_nobox h1 o' l bs hb⟩
   ·cases h
 ·cases h
def killD (v : Option Nat) (d : D RT den) : D RT den := match v with | some o => bif d.nxs o then .q else d | none => d
theorem load_grown {pc : Nat → List (D RT den) → Option (D RT den)} {s s1 : St RT den} {v : Option Nat} {al ty t ty' : Nat} {d : D RT den} {n : Nat} (hn : n ≤ s.objs.length) (hg : D.gd n (s.get t) = true) (hag : E.agg ty' = some false)
  (hob : ∀ o' l bs, obj s.objs o' = .box l bs → obj s1.objs o' = match v with | some o => .box l (bs.map (D.kill1 o)) | none => .box l bs) (hnb : ∀ o' l bs, o' < s.objs.length → obj s1.objs o' = .box l bs → ∃ bs0, obj s.objs o' = .box l bs0) (hcl : ∀ o, v = some o → clear o s.objs = true) (hs : s1.get t = (s.kill v).get t)
  (h : val E pc s1 al ty (.load ty' (.tmp t)) = some d) : ∃ d0, val E pc s al ty (.load ty' (.tmp t)) = some d0 ∧ d = killD v d0 := by
 simp only [val, ev_tmp] at h ⊢
 rw [hs] at h
 have hsame : s.get t = .q ∨ (s.kill v).get t = s.get t := by
  cases v with
  | none => exact .inr rfl
  | some o =>
   rw [get_killed] at h ⊢
   cases hq : (s.get t).nxs o with
   | true => rw [hq] at h; cases h
   | false => exact .inr rfl
 rcases hsame with hd | he
 ·exfalso
  have : (s.kill v).get t = .q := by
   cases v with
   | none => exact hd
   | some o => rw [get_killed, hd]; rfl
  rw [this] at h
  cases h
 rw [he] at h
 cases hq : s.get t <;> rw [hq] at hg h <;> try (cases hg; done)
 case undef => cases h
 case q => cases h
 case emp z τ => cases h
 case rptr cs =>
  have e : load E s1.objs ty' (.rptr cs) = load E s.objs ty' (.rptr cs) := rfl
  have e2 : dload E s1.objs ty' (.rptr cs) = dload E s.objs ty' (.rptr cs) := rfl
  rw [e, e2] at h
  refine ⟨d, h, ?_⟩
  cases v with
  | none => rfl
  | some o =>
   cases hl : load E s.objs ty' (.rptr cs) with
   | none => rw [hl] at h; cases h
   | some d' =>
    rw [hl] at h
    have h := Option.some.inj h; subst h
    simp only [load, cellsAt, Option.bind_eq_some_iff, Option.some.injEq] at hl
    obtain ⟨cs', rfl, m, _, l, hsub, g, _, hof⟩ := hl
    simp only [killD]
    rw [ofCells_nxs (fun c hc => sp_nx (List.all_eq_true.mp hg c (sub_mem hsub hc))) hof]; rfl
 case ref o' off =>
  have hlt : o' < n := by simpa [D.gd, Nat.blt_eq] using hg
  have e2 : ∀ os, dload E os ty' (.ref o' off) = none := fun os => rfl
  rw [e2] at h ⊢
  cases hl : load E s1.objs ty' (.ref o' off) with
  | none => rw [hl] at h; cases h
  | some d' =>
   rw [hl] at h
   have h := Option.some.inj h; subst h
   simp only [load, cellsAt, Option.bind_eq_some_iff, hag] at hl
   obtain ⟨cs', hcs, m, hm, l, hsub, g, hgg, hof⟩ := hl
   have hgg := Option.some.inj hgg; subst hgg
   split at hcs
   ·rename_i lf cs hb
    obtain ⟨bs0, hb0⟩ := hnb o' lf cs (by omega) hb
    have hb1 := hob o' lf bs0 hb0
    rw [hb] at hb1
    cases hbl : Nat.blt off cs.length with
    | false => rw [hbl] at hcs; cases hcs
    | true =>
     rw [hbl] at hcs
     have hcs := Option.some.inj hcs; subst hcs
     cases v with
     | none =>
      have hb1 : cs = bs0 := by injection hb1
      subst hb1
      refine ⟨d', ?_, rfl⟩
      simp only [load, cellsAt, hb0, hbl, cond_true, Option.bind_some, hm, hsub, hag, hof]
     | some o =>
      have hb1 : cs = bs0.map (D.kill1 o) := by injection hb1
      subst hb1
      rw [List.length_map] at hbl
      have hsub0 : sub (bs0.drop off) 0 m = some ((bs0.drop off).take m) ∧ l = ((bs0.drop off).take m).map (D.kill1 o) := by
       unfold sub at hsub ⊢
       simp only [List.length_drop, List.length_map] at hsub ⊢
       split at hsub
       ·rename_i hle
        rw [if_pos hle]
        have hsub := Option.some.inj hsub; subst hsub
        simp [List.map_take, List.map_drop]
       ·cases hsub
      obtain ⟨hs0, rfl⟩ := hsub0
      simp only [ofCells, cond_false] at hof
      generalize hL : (bs0.drop off).take m = L at hof hs0
      match L, hof with
      | [c], hof =>
       have hof := Option.some.inj hof; subst hof
       refine ⟨c, ?_, ?_⟩
       ·simp only [load, cellsAt, hb0, hbl, cond_true, Option.bind_some, hm, hs0, hag, ofCells, one, cond_false]
       ·have hcm : c ∈ bs0 := List.mem_of_mem_drop (List.mem_of_mem_take (by rw [hL]; simp))
        have hmem : (Ob.box lf bs0) ∈ s.objs := by
         unfold obj at hb0
         rw [List.getD_eq_getElem?_getD, List.getElem?_eq_getElem (by omega), Option.getD_some] at hb0
         rw [← hb0]; exact List.getElem_mem _
        have hc := hcl o rfl
        unfold clear at hc
        rw [List.all_eq_true] at hc
        have hc := hc _ hmem
        simp only [List.all_eq_true] at hc
        have hc := hc c hcm
        dsimp only [D.kill1, killD]
        cases hx : c.nx o with
        | false => rw [nx_nxs hx, Bool.and_false]
        | true =>
         rw [hx] at hc
         have hc : c.isO = true := by simpa using hc
         have : c.nxs o = true := by cases c <;> first | (cases hc; done) | exact hx
         rw [this, hc]; rfl
   ·cases hcs
theorem load_grows {pc : Nat → List (D RT den) → Option (D RT den)} {s s1 : St RT den} {v : Option Nat} {al ty t ty' : Nat} {d0 : D RT den} {n : Nat} (hg : D.gd n (s.get t) = true) (hag : E.agg ty' = some false)
  (hob : ∀ o' l bs, obj s.objs o' = .box l bs → obj s1.objs o' = match v with | some o => .box l (bs.map (D.kill1 o)) | none => .box l bs) (hvb : ∀ o, v = some o → ∀ l bs, obj s.objs o ≠ .box l bs) (hcl : ∀ o, v = some o → clear o s.objs = true) (hs : s1.get t = (s.kill v).get t)
  (h : val E pc s al ty (.load ty' (.tmp t)) = some d0) : val E pc s1 al ty (.load ty' (.tmp t)) = some (killD v d0) := by
 simp only [val, ev_tmp] at h ⊢
 rw [hs]
 cases hq : s.get t <;> rw [hq] at hg h <;> try (cases hg; done)
 case undef => cases h
 case q => cases h
 case emp z τ => cases h
 case rptr cs =>
  have e0 : (s.kill v).get t = .rptr cs := by
   cases v with
   | none => exact hq
   | some o => rw [get_killed, hq]; rfl
  rw [e0]
  have e : load E s1.objs ty' (.rptr cs) = load E s.objs ty' (.rptr cs) := rfl
  have e2 : dload E s1.objs ty' (.rptr cs) = dload E s.objs ty' (.rptr cs) := rfl
  rw [e, e2, h]
  cases v with
  | none => rfl
  | some o =>
   cases hl : load E s.objs ty' (.rptr cs) with
   | none => rw [hl] at h; cases h
   | some d' =>
    rw [hl] at h
    have h := Option.some.inj h; subst h
    simp only [load, cellsAt, Option.bind_eq_some_iff, Option.some.injEq] at hl
    obtain ⟨cs', rfl, m, _, l, hsub, g, _, hof⟩ := hl
    simp only [killD]
    rw [ofCells_nxs (fun c hc => sp_nx (List.all_eq_true.mp hg c (sub_mem hsub hc))) hof]; rfl
 case ref o' off =>
  have e2 : ∀ os, dload E os ty' (.ref o' off) = none := fun os => rfl
  rw [e2] at h
  cases hl : load E s.objs ty' (.ref o' off) with
  | none => rw [hl] at h; cases h
  | some d' =>
   rw [hl] at h
   have h := Option.some.inj h; subst h
   simp only [load, cellsAt, Option.bind_eq_some_iff, hag] at hl
   obtain ⟨cs', hcs, m, hm, l, hsub, g, hgg, hof⟩ := hl
   have hgg := Option.some.inj hgg; subst hgg
   split at hcs
   ·rename_i lf bs0 hb0
    have e0 : (s.kill v).get t = .ref o' off := by
     cases v with
     | none => exact hq
     | some o =>
      rw [get_killed, hq]
      have : (D.ref o' off : D RT den).nxs o = false := by
       simp only [D.nxs]
       exact decide_eq_false (fun e => hvb o rfl lf bs0 (by rw [e]; exact hb0))
      rw [this]; rfl
    rw [e0]
    have hb1 := hob o' lf bs0 hb0
    cases hbl : Nat.blt off bs0.length with
    | false => rw [hbl] at hcs; cases hcs
    | true =>
     rw [hbl] at hcs
     have hcs := Option.some.inj hcs; subst hcs
     cases v with
     | none =>
      have hb1 : obj s1.objs o' = .box lf bs0 := hb1
      simp only [load, cellsAt, hb1, hbl, cond_true, Option.bind_some, hm, hsub, hag, hof, killD]
     | some o =>
      have hb1 : obj s1.objs o' = .box lf (bs0.map (D.kill1 o)) := hb1
      simp only [ofCells, cond_false] at hof
      have hl : l = (bs0.drop off).take m ∧ 0 + m ≤ (bs0.drop off).length := by
       unfold sub at hsub
       split at hsub
       ·rename_i hle; exact ⟨(Option.some.inj hsub).symm, hle⟩
       ·cases hsub
      obtain ⟨rfl, hle⟩ := hl
      generalize hL : (bs0.drop off).take m = L at hof
      match L, hof with
      | [c], hof =>
       have hof := Option.some.inj hof; subst hof
       have hcm : c ∈ bs0 := List.mem_of_mem_drop (List.mem_of_mem_take (by rw [hL]; simp))
       have hlt : o' < s.objs.length := by
        by_cases hlt : o' < s.objs.length
        ·exact hlt
        ·unfold obj at hb0
         rw [List.getD_eq_getElem?_getD, List.getElem?_eq_none (by omega)] at hb0
         cases hb0
       have hmem : (Ob.box lf bs0) ∈ s.objs := by
        unfold obj at hb0
        rw [List.getD_eq_getElem?_getD, List.getElem?_eq_getElem hlt, Option.getD_some] at hb0
        rw [← hb0]; exact List.getElem_mem _
       have hc := hcl o rfl
       unfold clear at hc
       rw [List.all_eq_true] at hc
       have hc := hc _ hmem
       simp only [List.all_eq_true] at hc
       have hc := hc c hcm
       have hk : killD (some o) c = c.kill1 o := by
        dsimp only [D.kill1, killD]
        cases hx : c.nx o with
        | false => rw [nx_nxs hx, Bool.and_false]
        | true =>
         rw [hx] at hc
         have hc : c.isO = true := by simpa using hc
         have : c.nxs o = true := by cases c <;> first | (cases hc; done) | exact hx
         rw [this, hc]; rfl
       have hs1 : sub ((bs0.map (D.kill1 o)).drop off) 0 m = some [c.kill1 o] := by
        unfold sub
        rw [if_pos (by simpa using hle), List.drop_zero, ← List.map_drop, ← List.map_take, hL]; rfl
       rw [hk]
       simp only [load, cellsAt, hb1, List.length_map, hbl, cond_true, Option.bind_some, hm, hs1, hag, ofCells, one, cond_false]
   all_goals cases hcs
theorem app_vict {os : List (Ob RT den)} {z by' : Nat} {dx dy : D RT den} {r : Bool × D RT den × List (Ob RT den)} (h : appendTo E os z by' dx dy = some r) : ∀ o len, dx = .os o len → ∀ l bs, obj os o ≠ .box l bs := by
 intro o len e l bs hb
 subst e
 unfold appendTo at h
 cases dy <;> dsimp only at h <;> try (cases h; done)
 all_goals
  rw [Bool.cond_eq_ite] at h
  split at h
  ·rw [hb] at h; cases h
  ·cases h
theorem swap_b {pc : Pr RT den} {ops : Array Oper} {fz : FzS} {p q : Oper × Nat} {s s1 s2 : St RT den} (hf : Fz E ops fz s) (hsw : swapB fz.gz fz.ag p.1 q.1 = true) (hap : p.1.apart ops q.1 = true) (h1 : stepOp E pc ops p s = some s1) (h2 : stepOp E pc ops q s1 = some s2) :
  ∃ s1', stepOp E pc ops q s = some s1' ∧ stepOp E pc ops p s1' = some s2 := by
 obtain ⟨a1, a2, a3⟩ := Oper.apart_spec hap
 obtain ⟨_, ⟨n, hn, _, hgz, hag⟩, _, hcv⟩ := hf
 simp only [swapB, isApp, Bool.and_eq_true, Option.isNone_iff_eq_none] at hsw
 obtain ⟨⟨qg, qa⟩, pg, hp⟩ := hsw
 obtain ⟨args, argTypes, hqo⟩ : ∃ args argTypes, q.1.op = .call ⟨.builtin .append, args, argTypes⟩ := by
  cases hop : q.1.op <;> rw [hop] at qa <;> try (cases qa; done)
  rename_i c
  obtain ⟨callee, args, argTypes⟩ := c
  cases callee <;> try (cases qa; done)
  rename_i b
  cases b <;> try (cases qa; done)
  exact ⟨_, _, rfl⟩
 obtain ⟨ty', t, hpo, hb1, hb2⟩ : ∃ ty' t, p.1.op = .load ty' (.tmp t) ∧ fz.ag ty' = true ∧ fz.gz t = true := by
  cases hop : p.1.op <;> rw [hop] at hp <;> try (cases hp; done)
  rename_i ty' x
  cases x <;> try (cases hp; done)
  simp only [cellLoad, Bool.and_eq_true] at hp
  exact ⟨_, _, rfl, hp.1, hp.2⟩
 have pst : ∀ s, doOp E pc p.1 p.2 s = (val E pc.fn s p.2 p.1.type p.1.op).bind fun d => some (s.put p.1.dst d) := fun s => by
  unfold doOp
  rw [hpo]
  rfl
 have qst : ∀ s, doOp E pc q.1 q.2 s = (eff E s q.1.type q.1.op).bind fun r => some ((({ s with objs := r.2 } : St RT den).kill (victim E s q.1.op)).put q.1.dst r.1) := by
  intro s
  unfold doOp
  rw [hqo]
  rfl
 simp only [stepOp, pg, qg] at h1 h2 ⊢
 rw [pst, Option.bind_eq_some_iff] at h1
 obtain ⟨d0, hd0, h1⟩ := h1
 have h1 := Option.some.inj h1; subst h1
 rw [qst, Option.bind_eq_some_iff] at h2
 obtain ⟨r, hr, h2⟩ := h2
 have h2 := Option.some.inj h2; subst h2
 have look : ∀ t y, y ∈ args.toList → E.ev (s.put p.1.dst d0) t y = E.ev s t y := by
  intro t y hy
  cases y with
  | tmp i =>
   cases hd : p.1.dst with
   | none => rfl
   | some d =>
    refine get_put (fun e => a1 d hd ?_)
    rw [← e]
    exact looksAt_op (by rw [hqo]; simp [Op.operands, Call.operands]; simpa using hy)
  | const c => rfl
  | func f => rfl
  | global g => rfl
 obtain ⟨c1, c2⟩ := app_congr (E := E) (pc := pc.fn) (ty := q.1.type) (argTypes := argTypes) (s := s.put p.1.dst d0) (s' := s) put_objs look
 rw [hqo, c1] at hr
 obtain ⟨x, y, t0, hxs, z0, by0, hap0⟩ : ∃ x y t0, args.toList = [x, y] ∧ ∃ z by', appendTo E s.objs z by' (E.ev s 0 x) t0 = some (true, r) := by
  unfold eff at hr
  dsimp only at hr
  split at hr
  ·rename_i x y t t' hxs hts
   split at hr
   ·simp only [Option.bind_eq_some_iff] at hr
    obtain ⟨e, _, by', _, zc, _, z, _, r1, hr1, hr⟩ := hr
    obtain ⟨b1, r1⟩ := r1
    cases b1 with
    | false => cases hr
    | true => have hr := Option.some.inj hr; subst hr; exact ⟨x, y, _, hxs, z, by', hr1⟩
   ·cases hr
  ·cases hr
 obtain ⟨hob, hcl⟩ := app_box hap0
 have hvt := app_vict hap0
 have hvic : victim E s q.1.op = match E.ev s 0 x with | .os o _ => some o | _ => none := by
  rw [hqo]
  unfold victim
  dsimp only
  rw [hxs]
  dsimp only
  generalize E.ev s 0 x = dx
  cases dx <;> rfl
 rw [← hvic] at hob
 have hos : ∀ o, victim E s q.1.op = some o → ∃ len, E.ev s 0 x = .os o len := fun o ho => by
  rw [hvic] at ho
  split at ho
  ·rename_i o' len he
   have ho := Option.some.inj ho; subst ho
   exact ⟨len, he⟩
  ·cases ho
 refine ⟨(({ s with objs := r.2 } : St RT den).kill (victim E s q.1.op)).put q.1.dst r.1, by rw [qst, hqo, hr]; rfl, ?_⟩
 generalize hv : victim E s q.1.op = v at hob hos
 obtain ⟨s0, g1, g2⟩ := hgz
 obtain ⟨m, hm⟩ := g1 t hb2
 have hgd := g2 m t hm
 have eo : ((({ s with objs := r.2 } : St RT den).kill v).put q.1.dst r.1).objs = r.2 := by rw [put_objs]; cases v <;> rfl
 have hval : val E pc.fn ((({ s with objs := r.2 } : St RT den).kill v).put q.1.dst r.1) p.2 p.1.type p.1.op = some (killD v d0) := by
  rw [hpo] at hd0 ⊢
  refine load_grows hgd (hag _ hb1) (by rw [eo]; exact hob) (fun o ho => ?_) (fun o ho => ?_) ?_ hd0
  ·obtain ⟨len, he⟩ := hos o ho
   exact hvt o len he
  ·obtain ⟨len, he⟩ := hos o ho
   exact hcl o len he
  ·have : (({ s with objs := r.2 } : St RT den).kill v).get t = (s.kill v).get t := by cases v <;> rfl
   rw [← this]
   cases hd : q.1.dst with
   | none => rfl
   | some d => exact get_put (fun e => a3 d hd (by rw [← e]; exact looksAt_op (by rw [hpo]; simp [Op.operands])))
 rw [pst, hval]
 rw [← hv, hqo, c2]
 simp only [Option.bind_some, Option.some.injEq]
 have e0 : ({ s.put p.1.dst d0 with objs := r.2 } : St RT den) = ({ s with objs := r.2 } : St RT den).put p.1.dst d0 := put_with
 rw [e0, kill_put, ← hqo, hv]
 exact (put_comm a2).symm
theorem swap_a (hE : Ok E P) {pc : Pr RT den} {ops : Array Oper} {fz : FzS} {p q : Oper × Nat} {s s1 s2 : St RT den} (hf : Fz E ops fz s) (hsw : swapA fz.cv fz.gz fz.ag p.1 q.1 = true) (hap : p.1.apart ops q.1 = true) (h1 : stepOp E pc ops p s = some s1) (h2 : stepOp E pc ops q s1 = some s2) :
  ∃ s1', stepOp E pc ops q s = some s1' ∧ stepOp E pc ops p s1' = some s2 := by
 obtain ⟨a1, a2, a3⟩ := Oper.apart_spec hap
 obtain ⟨_, ⟨n, hn, _, hgz, hag⟩, _, hcv⟩ := hf
 simp only [swapA, isApp, Bool.and_eq_true, Option.isNone_iff_eq_none] at hsw
 obtain ⟨⟨pg, pa⟩, qg, hq⟩ := hsw
 obtain ⟨args, argTypes, hpo⟩ : ∃ args argTypes, p.1.op = .call ⟨.builtin .append, args, argTypes⟩ := by
  cases hop : p.1.op <;> rw [hop] at pa <;> try (cases pa; done)
  rename_i c
  obtain ⟨callee, args, argTypes⟩ := c
  cases callee <;> try (cases pa; done)
  rename_i b
  cases b <;> try (cases pa; done)
  exact ⟨_, _, rfl⟩
 have pst : ∀ s, doOp E pc p.1 p.2 s = (eff E s p.1.type p.1.op).bind fun r => some ((({ s with objs := r.2 } : St RT den).kill (victim E s p.1.op)).put p.1.dst r.1) := by
  intro s
  unfold doOp
  rw [hpo]
  rfl
 have hqc : calm pc.has pc.gv q.1.op = true := by
  rcases (Bool.or_eq_true _ _).mp hq with hq | hq
  ·exact bare_calm (gbare_bare hq)
  ·cases hop : q.1.op <;> rw [hop] at hq <;> first | (cases hq; done) | rfl
 obtain ⟨qs, qh, qv⟩ := calm_x hqc
 have qst : ∀ s, doOp E pc q.1 q.2 s = (val E pc.fn s q.2 q.1.type q.1.op).bind fun d => some (s.put q.1.dst d) := fun s => by
  unfold doOp
  rw [qh, qv, qs]
  rfl
 simp only [stepOp, pg, qg] at h1 h2 ⊢
 rw [pst, Option.bind_eq_some_iff] at h1
 obtain ⟨r, hr, h1⟩ := h1
 have h1 := Option.some.inj h1; subst h1
 rw [qst, Option.bind_eq_some_iff] at h2
 obtain ⟨d1, hd1, h2⟩ := h2
 have h2 := Option.some.inj h2; subst h2
 obtain ⟨x, y, t0, hxs, z0, by0, hap0⟩ : ∃ x y t0, args.toList = [x, y] ∧ ∃ z by', appendTo E s.objs z by' (E.ev s 0 x) t0 = some (true, r) := by
  rw [hpo] at hr
  unfold eff at hr
  dsimp only at hr
  split at hr
  ·rename_i x y t t' hxs hts
   split at hr
   ·simp only [Option.bind_eq_some_iff] at hr
    obtain ⟨e, _, by', _, zc, _, z, _, r1, hr1, hr⟩ := hr
    obtain ⟨b1, r1⟩ := r1
    cases b1 with
    | false => cases hr
    | true => have hr := Option.some.inj hr; subst hr; exact ⟨x, y, _, hxs, z, by', hr1⟩
   ·cases hr
  ·cases hr
 obtain ⟨hob, hcl⟩ := app_box hap0
 have hvic : victim E s p.1.op = match E.ev s 0 x with | .os o _ => some o | _ => none := by
  rw [hpo]
  unfold victim
  dsimp only
  rw [hxs]
  dsimp only
  generalize E.ev s 0 x = dx
  cases dx <;> rfl
 rw [← hvic] at hob
 have hcl : ∀ o, victim E s p.1.op = some o → clear o s.objs = true := fun o ho => by
  rw [hvic] at ho
  split at ho
  ·rename_i o' len he
   have ho := Option.some.inj ho; subst ho
   exact hcl _ _ he
  ·cases ho
 generalize hv : victim E s p.1.op = v at hob hcl hd1
 have key : ∃ d0, val E pc.fn s q.2 q.1.type q.1.op = some d0 ∧ d1 = killD v d0 := by
  rcases (Bool.or_eq_true _ _).mp hq with hb | hb
  ·have hcv' : ∀ t u x, q.1.op = .convert t u x → (E.ik t).isSome = true := fun t u x e => by
    rw [e] at hb
    exact hcv t hb
   have e1 : val E pc.fn ((({ s with objs := r.2 } : St RT den).kill v).put p.1.dst r.1) q.2 q.1.type q.1.op = val E pc.fn (s.kill v) q.2 q.1.type q.1.op := by
    refine bare_val (gbare_bare hb) hcv' (fun t x hx => ?_)
    cases x with
    | tmp i =>
     rw [ev_tmp, ev_tmp]
     have : (({ s with objs := r.2 } : St RT den).kill v).get i = (s.kill v).get i := by cases v <;> rfl
     rw [← this]
     cases hd : p.1.dst with
     | none => rfl
     | some d => exact get_put (fun e => a1 d hd (by rw [← e]; exact looksAt_op hx))
    | const c => rfl
    | func f => rfl
    | global g => rfl
   rw [e1] at hd1
   cases v with
   | none => exact ⟨d1, hd1, rfl⟩
   | some o => exact val_kill hE hcv hb hd1
  ·cases hop : q.1.op <;> rw [hop] at hb hd1 <;> try (cases hb; done)
   rename_i ty' x
   cases x <;> try (cases hb; done)
   rename_i t
   simp only [cellLoad, Bool.and_eq_true] at hb
   obtain ⟨s0, g1, g2⟩ := hgz
   obtain ⟨m, hm⟩ := g1 t hb.2
   have hgd := g2 m t hm
   have eo : ((({ s with objs := r.2 } : St RT den).kill v).put p.1.dst r.1).objs = r.2 := by rw [put_objs]; cases v <;> rfl
   exact load_grown hn hgd (hag _ hb.1) (v := v) (s1 := (({ s with objs := r.2 } : St RT den).kill v).put p.1.dst r.1) (by rw [eo]; exact hob) (by rw [eo]; exact app_nobox hap0) hcl (by
    have : (({ s with objs := r.2 } : St RT den).kill v).get t = (s.kill v).get t := by cases v <;> rfl
    rw [← this]
    cases hd : p.1.dst with
    | none => rfl
    | some d => exact get_put (fun e => a1 d hd (by rw [← e]; exact looksAt_op (by rw [hop]; simp [Op.operands])))) hd1
 obtain ⟨d0, v0, hd0⟩ := key
 refine ⟨s.put q.1.dst d0, by rw [qst, v0]; rfl, ?_⟩
 have look : ∀ t y, y ∈ args.toList → E.ev (s.put q.1.dst d0) t y = E.ev s t y := by
  intro t y hy
  cases y with
  | tmp i =>
   cases hd : q.1.dst with
   | none => rfl
   | some d =>
    refine get_put (fun e => a3 d hd ?_)
    rw [← e]
    exact looksAt_op (by rw [hpo]; simp [Op.operands, Call.operands]; simpa using hy)
  | const c => rfl
  | func f => rfl
  | global g => rfl
 obtain ⟨c1, c2⟩ := app_congr (E := E) (pc := pc.fn) (ty := p.1.type) (argTypes := argTypes) (s := s.put q.1.dst d0) (s' := s) put_objs look
 rw [pst]
 rw [hpo] at hr hv ⊢
 rw [c1, hr, c2, hv]
 simp only [Option.bind_some, Option.some.injEq]
 have e0 : ({ s.put q.1.dst d0 with objs := r.2 } : St RT den) = ({ s with objs := r.2 } : St RT den).put q.1.dst d0 := put_with
 rw [e0, kill_put, hd0]
 exact (put_comm a2).symm
theorem swap_n {pc : Pr RT den} {ops : Array Oper} {fz : FzS} {p q : Oper × Nat} {s s1 s2 : St RT den} (hf : Fz E ops fz s) (hsw : swapN pc.has pc.gv fz.cv fz.fz p.1 q.1 = true) (hap : p.1.apart ops q.1 = true) (h1 : stepOp E pc ops p s = some s1) (h2 : stepOp E pc ops q s1 = some s2) :
  ∃ s1', stepOp E pc ops q s = some s1' ∧ stepOp E pc ops p s1' = some s2 := by
 obtain ⟨a1, a2, a3⟩ := Oper.apart_spec hap
 simp only [swapN, gNil, Bool.and_eq_true, Option.isNone_iff_eq_none] at hsw
 obtain ⟨hp, qg, hnh, hgv⟩ := hsw
 cases hx : xOf pc.gv q.1.op with
 | none => rw [hx] at hgv; cases hgv
 | some fx =>
 obtain ⟨f, xs⟩ := fx
 rw [hx] at hgv
 have qst : ∀ s, doOp E pc q.1 q.2 s = (callG E pc s.objs f (E.args s (E.par f) xs)).bind fun r => some ((({ s with objs := r.2.2 } : St RT den).kill r.1).put q.1.dst r.2.1) := fun s => by
  unfold doOp
  rw [hnh, hx]
 rw [stepOp_still (bf_calm hp), Option.bind_eq_some_iff] at h1
 obtain ⟨d1, v1, e1⟩ := h1
 have e1 := Option.some.inj e1
 subst e1
 have hq : ∀ s, stepOp E pc ops q s = doOp E pc q.1 q.2 s := fun s => by simp only [stepOp, qg]
 rw [hq, qst, Option.bind_eq_some_iff] at h2
 obtain ⟨r, hr, h2⟩ := h2
 have h2 := Option.some.inj h2; subst h2
 have ea : E.args (s.put p.1.dst d1) (E.par f) xs = E.args s (E.par f) xs := by
  refine args_congr _ _ (fun t x hm => ?_)
  cases x with
  | tmp i =>
   cases hd : p.1.dst with
   | none => rfl
   | some d =>
    refine get_put (fun e => a1 d hd ?_)
    rw [← e]
    obtain ⟨args, ts, hop, rfl⟩ := xOf_call hx
    exact looksAt_op (by rw [hop]; simp only [Op.operands, Call.operands, Array.toList_append, List.mem_append]; exact .inr hm)
  | const c => rfl
  | func f => rfl
  | global g => rfl
 rw [ea, put_objs] at hr
 have hv : r.1 = none := by
  split at hgv
  ·rename_i f' c l hfx
   obtain ⟨rfl, rfl⟩ := Prod.mk.inj (Option.some.inj hfx)
   unfold callG at hr
   cases hg : pc.gv f with
   | false => rw [hg] at hr; cases hr
   | true =>
    rw [hg] at hr
    simp only [cond_true, Option.bind_eq_some_iff, Option.some.injEq] at hr
    obtain ⟨y, hy, x, hx2, z, hz, rfl⟩ := hr
    have hne : ∀ t o len, E.ev s t (.const c) ≠ .os o len := fun t o len e => by
     simp only [Env.ev, ofValue] at e
     split at e <;> first | cases e | (split at e <;> cases e)
    have key : ∀ d ds, (∀ o len, d ≠ .os o len) → argG E s.objs (d :: ds) = some y → y.1 = none := fun d ds hd he => by
     unfold argG at he
     split at he
     ·rename_i o len ds' h
      exact absurd (List.cons.inj h).1 (hd o len)
     ·rename_i z0 τ ds' h
      cases hq : ds'.all D.sc with
      | false => rw [hq] at he; cases he
      | true => rw [hq] at he; have he := Option.some.inj he; subst he; rfl
     ·cases he
    cases hts : E.par f with
    | nil => rw [hts] at hy; exact key _ _ (hne 0) hy
    | cons t ts => rw [hts] at hy; exact key _ _ (hne t) hy
  ·cases hgv
 have c1 : stepVal E pc.fn ops p ((({ s with objs := r.2.2 } : St RT den)).put q.1.dst r.2.1) = some d1 := by
  rw [← v1]
  refine (bf_congr hf hp (fun t ht => Eq.symm ?_)).symm
  cases hd : q.1.dst with
  | none => rfl
  | some d => exact get_put (s := ({ s with objs := r.2.2 } : St RT den)) (fun e => a3 d hd (by rw [← e]; exact ht))
 refine ⟨(({ s with objs := r.2.2 } : St RT den)).put q.1.dst r.2.1, by rw [hq, qst, hr]; simp only [Option.bind_some, hv]; rfl, ?_⟩
 rw [stepOp_still (bf_calm hp), c1]
 simp only [Option.bind_some, Option.some.injEq, hv]
 show _ = (({ s.put p.1.dst d1 with objs := r.2.2 } : St RT den)).put q.1.dst r.2.1
 rw [put_with]
 exact (put_comm a2).symm
theorem step_swap (hE : Ok E P) {pc : Pr RT den} {ops : Array Oper} {fz : FzS} {p q : Oper × Nat} {s s1 s2 : St RT den} (hf : Fz E ops fz s) (hsw : swaps pc.has pc.gv pc.lend pc.dp pc.pl fz ops p.1 q.1 = true) (h1 : stepOp E pc ops p s = some s1) (h2 : stepOp E pc ops q s1 = some s2) :
  ∃ s1', stepOp E pc ops q s = some s1' ∧ stepOp E pc ops p s1' = some s2 := by
 unfold swaps at hsw
 rw [Bool.and_eq_true, Bool.or_eq_true, Bool.or_eq_true, Bool.or_eq_true, Bool.or_eq_true, Bool.or_eq_true, Bool.or_eq_true] at hsw
 obtain ⟨hc, hap⟩ := hsw
 rcases hc with (((((hc | hc) | hc) | hc) | hc) | hc) | hc
 rotate_left
 ·exact swap_e hf hc hap h1 h2
 ·exact swap_k hf hc hap h1 h2
 ·exact swap_g hE hf hc hap h1 h2
 ·exact swap_a hE hf hc hap h1 h2
 ·exact swap_n hf hc hap h1 h2
 ·exact swap_b hf hc hap h1 h2
 rw [Bool.or_eq_true, Bool.or_eq_true, Bool.or_eq_true, Bool.or_eq_true, Bool.or_eq_true, Bool.and_eq_true, Bool.and_eq_true, Bool.and_eq_true, Bool.and_eq_true, Bool.and_eq_true, Bool.and_eq_true] at hc
 obtain ⟨a1, a2, a3⟩ := Oper.apart_spec hap
 rcases hc with ((((⟨hp, hq⟩ | ⟨hp, hq⟩) | ⟨hp, hq⟩) | ⟨hp, hg⟩) | ⟨hp, hg⟩) | ⟨hg, hq⟩
 rotate_right
 ·have hp := grows_turn hg
  have hqc : calm pc.has pc.gv q.1.op = true := fz_calm hq
  rw [stepOp_store hp, Option.bind_eq_some_iff] at h1
  rw [stepOp_still hqc, Option.bind_eq_some_iff] at h2
  obtain ⟨r, v1, e1⟩ := h1
  obtain ⟨d2, v2, e2⟩ := h2
  have e1 := Option.some.inj e1
  have e2 := Option.some.inj e2
  subst e1; subst e2
  obtain ⟨outs, hos⟩ := stepEff_grows hg v1
  have c2 : stepVal E pc.fn ops q s = some d2 := by
   refine oldVal hf hq (outs := outs) (by rw [put_objs]; exact hos) (fun t ht => ?_) v2
   cases hd : p.1.dst with
   | none => rfl
   | some d => exact (get_put (s := ({ s with objs := r.2 } : St RT den)) (fun e => a1 d hd (by rw [← e]; exact ht))).symm
  have c1 : stepEff E pc ops p (s.put q.1.dst d2) = some r := by
   rw [← v1]
   refine stepEff_congr hp put_objs (fun t ht => ?_)
   cases hd : q.1.dst with
   | none => rfl
   | some d => exact get_put (fun e => a3 d hd (by rw [← e]; exact ht))
  refine ⟨s.put q.1.dst d2, by rw [stepOp_still hqc, c2]; rfl, ?_⟩
  rw [stepOp_store hp, c1]
  simp only [Option.bind_some, Option.some.injEq]
  rw [put_with]
  exact (put_comm a2).symm
 rotate_right
 ·exact swap_app hp hg hap h1 h2
 ·exact step_swap0 (by simp [hp, hq, hap]) h1 h2
 ·rw [stepOp_still (bf_calm hp), Option.bind_eq_some_iff] at h1
  rw [stepOp_store hq, Option.bind_eq_some_iff] at h2
  obtain ⟨d1, v1, e1⟩ := h1
  obtain ⟨r, v2, e2⟩ := h2
  have e1 := Option.some.inj e1
  have e2 := Option.some.inj e2
  subst e1; subst e2
  have c2 : stepEff E pc ops q s = some r := by
   rw [← v2]
   refine stepEff_congr hq put_objs.symm (fun t ht => ?_)
   cases hd : p.1.dst with
   | none => rfl
   | some d => exact (get_put (fun e => a1 d hd (by rw [← e]; exact ht))).symm
  have c1 : stepVal E pc.fn ops p (({ s with objs := r.2 } : St RT den).put q.1.dst r.1) = some d1 := by
   rw [← v1]
   refine (bf_congr hf hp (fun t ht => Eq.symm ?_)).symm
   cases hd : q.1.dst with
   | none => rfl
   | some d => exact get_put (s := ({ s with objs := r.2 } : St RT den)) (fun e => a3 d hd (by rw [← e]; exact ht))
  refine ⟨({ s with objs := r.2 } : St RT den).put q.1.dst r.1, by rw [stepOp_store hq, c2]; rfl, ?_⟩
  rw [stepOp_still (bf_calm hp), c1, put_with]
  simp only [Option.bind_some, Option.some.injEq]
  exact (put_comm a2).symm
 ·rw [stepOp_store hp, Option.bind_eq_some_iff] at h1
  rw [stepOp_still (bf_calm hq), Option.bind_eq_some_iff] at h2
  obtain ⟨r, v1, e1⟩ := h1
  obtain ⟨d2, v2, e2⟩ := h2
  have e1 := Option.some.inj e1
  have e2 := Option.some.inj e2
  subst e1; subst e2
  have c2 : stepVal E pc.fn ops q s = some d2 := by
   rw [← v2]
   refine bf_congr hf hq (fun t ht => ?_)
   cases hd : p.1.dst with
   | none => rfl
   | some d => exact (get_put (s := ({ s with objs := r.2 } : St RT den)) (fun e => a1 d hd (by rw [← e]; exact ht))).symm
  have c1 : stepEff E pc ops p (s.put q.1.dst d2) = some r := by
   rw [← v1]
   refine stepEff_congr hp put_objs (fun t ht => ?_)
   cases hd : q.1.dst with
   | none => rfl
   | some d => exact get_put (fun e => a3 d hd (by rw [← e]; exact ht))
  refine ⟨s.put q.1.dst d2, by rw [stepOp_still (bf_calm hq), c2]; rfl, ?_⟩
  rw [stepOp_store hp, c1]
  simp only [Option.bind_some, Option.some.injEq]
  rw [put_with]
  exact (put_comm a2).symm
 ·have hq := grows_turn hg
  rw [stepOp_still hp, Option.bind_eq_some_iff] at h1
  rw [stepOp_store hq, Option.bind_eq_some_iff] at h2
  obtain ⟨d1, v1, e1⟩ := h1
  obtain ⟨r, v2, e2⟩ := h2
  have e1 := Option.some.inj e1
  have e2 := Option.some.inj e2
  subst e1; subst e2
  have c2 : stepEff E pc ops q s = some r := by
   rw [← v2]
   refine stepEff_congr hq put_objs.symm (fun t ht => ?_)
   cases hd : p.1.dst with
   | none => rfl
   | some d => exact (get_put (fun e => a1 d hd (by rw [← e]; exact ht))).symm
  obtain ⟨outs, hos⟩ := stepEff_grows hg c2
  have c1 : stepVal E pc.fn ops p (({ s with objs := r.2 } : St RT den).put q.1.dst r.1) = some d1 := by
   refine stepVal_mono (s := s) (by rw [put_objs, hos]; exact Ext.append) (fun t ht => ?_) v1
   cases hd : q.1.dst with
   | none => rfl
   | some d => exact (get_put (s := ({ s with objs := r.2 } : St RT den)) (fun e => a3 d hd (by rw [← e]; exact ht))).symm
  refine ⟨({ s with objs := r.2 } : St RT den).put q.1.dst r.1, by rw [stepOp_store hq, c2]; rfl, ?_⟩
  rw [stepOp_still hp, c1, put_with]
  simp only [Option.bind_some, Option.some.injEq]
  exact (put_comm a2).symm
end Go.Proofs.Ytcmfekgdlaffkaa.Vm

