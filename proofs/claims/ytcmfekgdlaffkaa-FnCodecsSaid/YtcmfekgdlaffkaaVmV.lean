
/- The value machine: literals in new memory, and what may change places with them. Conditions: none. -/
import Derived.Test.YtcmfekgdlaffkaaVmJ
namespace Go.Proofs.Ytcmfekgdlaffkaa.Vm
open Go Go.RowKit
set_option linter.unusedVariables false
set_option linter.unusedSimpArgs false
variable {RT : Type} {den : RT → Type} {E : Env RT den} {P : Program}
theorem litO_congr {o : Oper} {s s' : St RT den} (h : ∀ x, x ∈ o.op.operands.toList → E.ev s 0 x = E.ev s' 0 x) : litO E o s = litO E o s' := by
  unfold litO
  split
  · rename_i t len ps hg ho
    rw [ho] at h
    have : ∀ τ, elems E τ s ps.toList 0 = elems E τ s' ps.toList 0 := fun τ => elems_congr0 τ ps.toList 0 (fun x hx => h x (by simpa [Op.operands] using hx))
    simp only [this]
  · rename_i t l c hg ho
    rw [ho] at h
    rw [h l (by simp [Op.operands]), h c (by simp [Op.operands])]
  · rfl
theorem litVal_looks {ops : Array Oper} {o : Oper} {s s' : St RT den} (h : ∀ t ∈ o.looksAt ops, s.get t = s'.get t) : litVal E o s = litVal E o s' := by
  unfold litVal
  rw [litO_congr (fun x hx => ev_congr h 0 x (fun t e => looksAt_op (by subst e; exact hx)))]
def stepJ (E : Env RT den) (pc : Pr RT den) (inls : List Nat) (ops : Array Oper) (x : Nat × (Oper × Nat)) (s : St RT den) : Option (St RT den) :=
  match siteOf inls x.1 with
  | none => stepOp E pc ops x.2 s
  | some site => bif isLitS site then litOp E x.2.1 (x.2.2 + (site - 990)) s else none
theorem storeOld_set {pc : Pr RT den} {ops : Array Oper} {fz : FzS} {p : Oper × Nat} {s s' : St RT den} {al : Nat} {ob : Ob RT den} (hf : Fz E ops fz s) (hal : fz.n ≤ al) (hb : storeOld fz.kz p.1.op = true) (ho : s'.objs = s.objs.set al ob) (h : ∀ t ∈ p.1.looksAt ops, s.get t = s'.get t) :
    (∀ r, stepEff E pc ops p s' = some r → ∃ os, r.2 = os.set al ob ∧ os[al]? = s.objs[al]? ∧ stepEff E pc ops p s = some (r.1, os)) ∧
    (∀ r, stepEff E pc ops p s = some r → stepEff E pc ops p s' = some (r.1, r.2.set al ob) ∧ r.2[al]? = s.objs[al]?) := by
  obtain ⟨o, al0⟩ := p
  dsimp only at hb h
  cases hop : o.op <;> rw [hop] at hb <;> try (cases hb; done)
  rename_i t ad x
  cases ad <;> try (cases hb; done)
  rename_i ta
  simp only [storeOld] at hb
  obtain ⟨_, _, ⟨n, hn, hk⟩, _⟩ := hf
  obtain ⟨s0, k1, k2⟩ := hk false 39
  obtain ⟨m, hm⟩ := k1 ta hb
  have hpr := k2 m ta hm
  have hla : ta ∈ o.looksAt ops := looksAt_op (by rw [hop]; simp [Op.operands])
  have hga : s.get ta = s'.get ta := h ta hla
  have hx : ∀ u, E.ev s u x = E.ev s' u x := fun u => ev_congr h u x (fun t e => looksAt_op (by subst e; rw [hop]; simp [Op.operands]))
  have core : (∀ r, turn E pc s' o.type o.op = some r → ∃ os, r.2 = os.set al ob ∧ os[al]? = s.objs[al]? ∧ turn E pc s o.type o.op = some (r.1, os)) ∧
      (∀ r, turn E pc s o.type o.op = some r → turn E pc s' o.type o.op = some (r.1, r.2.set al ob) ∧ r.2[al]? = s.objs[al]?) := by
    rw [hop]
    simp only [turn, xOf]
    unfold eff
    simp only [ev_tmp, ← hga, ← hx]
    cases hq : s.get ta with
    | ref o1 off =>
      rw [hq] at hpr
      simp only [D.kd, cond_false, Bool.and_eq_true] at hpr
      have hne : o1 ≠ al := by
        have := Nat.le_of_ble_eq_true hpr.1
        omega
      have hob : obj s'.objs o1 = obj s.objs o1 := by
        rw [ho]; unfold obj
        rw [List.getD_eq_getElem?_getD, List.getD_eq_getElem?_getD, List.getElem?_set_ne (Ne.symm hne)]
      have hset : ∀ v : Ob RT den, s'.objs.set o1 v = (s.objs.set o1 v).set al ob := fun v => by rw [ho]; exact List.set_comm _ _ (Ne.symm hne)
      simp only [hob, hset]
      constructor
      · intro r hr
        simp only [Option.bind_eq_some_iff] at hr
        obtain ⟨n', hn', hr⟩ := hr
        cases hc : (E.ev s t x).cells.all D.flat && decide ((E.ev s t x).cells.length = n') with
        | false => rw [hc] at hr; cases hr
        | true =>
          rw [hc] at hr
          simp only [cond_true] at hr
          cases hbx : obj s.objs o1 <;> rw [hbx] at hr <;> try (cases hr; done)
          simp only [Option.bind_eq_some_iff] at hr
          obtain ⟨cs', hcs, hr⟩ := hr
          have hr := Option.some.inj hr; subst hr
          refine ⟨_, rfl, List.getElem?_set_ne hne, ?_⟩
          simp only [hn', hbx, Option.bind_some, hc, cond_true, hcs]
      · intro r hr
        simp only [Option.bind_eq_some_iff] at hr
        obtain ⟨n', hn', hr⟩ := hr
        cases hc : (E.ev s t x).cells.all D.flat && decide ((E.ev s t x).cells.length = n') with
        | false => rw [hc] at hr; cases hr
        | true =>
          rw [hc] at hr
          simp only [cond_true] at hr
          cases hbx : obj s.objs o1 <;> rw [hbx] at hr <;> try (cases hr; done)
          simp only [Option.bind_eq_some_iff] at hr
          obtain ⟨cs', hcs, hr⟩ := hr
          have hr := Option.some.inj hr; subst hr
          refine ⟨?_, List.getElem?_set_ne hne⟩
          simp only [hn', hbx, Option.bind_some, hc, cond_true, hcs]
    | _ =>
      rw [hq] at hpr
      first
        | (cases hpr; done)
        | (constructor
           · intro r hr
             simp only [Option.bind_eq_some_iff] at hr
             obtain ⟨n', hn', hr⟩ := hr
             cases hc : (E.ev s t x).cells.all D.flat && decide ((E.ev s t x).cells.length = n') <;> rw [hc] at hr <;> cases hr
           · intro r hr
             simp only [Option.bind_eq_some_iff] at hr
             obtain ⟨n', hn', hr⟩ := hr
             cases hc : (E.ev s t x).cells.all D.flat && decide ((E.ev s t x).cells.length = n') <;> rw [hc] at hr <;> cases hr)
  have skip : (∀ r : D RT den × List (Ob RT den), some (D.undef, s'.objs) = some r → ∃ os, r.2 = os.set al ob ∧ os[al]? = s.objs[al]? ∧ some (D.undef, s.objs) = some (r.1, os)) ∧ (∀ r : D RT den × List (Ob RT den), some (D.undef, s.objs) = some r → some (D.undef, s'.objs) = some (r.1, r.2.set al ob) ∧ r.2[al]? = s.objs[al]?) := by
    refine ⟨fun r hr => ?_, fun r hr => ?_⟩
    · have hr := Option.some.inj hr; subst hr
      exact ⟨s.objs, ho, rfl, rfl⟩
    · have hr := Option.some.inj hr; subst hr
      exact ⟨by rw [ho], rfl⟩
  unfold stepEff
  dsimp only
  cases hg : o.guard with
  | none => exact core
  | some jw =>
    obtain ⟨j, want⟩ := jw
    dsimp only
    cases hd : dstOf ops j with
    | none => exact ⟨fun r hr => (by cases hr), fun r hr => (by cases hr)⟩
    | some tg =>
      dsimp only
      have hgg : s.get tg = s'.get tg := h tg (by
        unfold dstOf at hd
        simp only [Oper.looksAt, hg, List.mem_append]
        exact .inr (by simp [hd]))
      rw [← hgg]
      cases hv : s.get tg with
      | bool b =>
        dsimp only
        cases hw : (b == want) with
        | true => exact core
        | false => exact skip
      | undef => exact skip
      | _ => exact ⟨fun r hr => (by cases hr), fun r hr => (by cases hr)⟩
theorem snapFlat_sp {os os' : List (Ob RT den)} {d : D RT den} (h : d.sp = true) : snapFlat E os d = snapFlat E os' d := by
  cases d <;> first | rfl | (cases h; done)
theorem snapList_sp {os os' : List (Ob RT den)} : ∀ {l : List (D RT den)}, l.all D.sp = true → snapList E os l = snapList E os' l
  | [], _ => rfl
  | d :: l, h => by
    simp only [List.all_cons, Bool.and_eq_true] at h
    simp only [snapList]
    rw [snapFlat_sp h.1 (os' := os'), snapList_sp h.2]
theorem snap_spc {os os' : List (Ob RT den)} {d : D RT den} (h : d.spc = true) : snap E os d = snap E os' d := by
  cases d with
  | agg cs => simp only [snap, snap1]; rw [snapList_sp h (os' := os')]
  | fn f cap => cases h
  | ref o off => cases h
  | eref o z j off => cases h
  | _ => first | rfl | (simp [D.spc, D.sp] at h; done)
theorem snaps_spc {os os' : List (Ob RT den)} : ∀ {l : List (D RT den)}, l.all D.spc = true → snaps E os l = snaps E os' l
  | [], _ => rfl
  | d :: l, h => by
    simp only [List.all_cons, Bool.and_eq_true] at h
    simp only [snaps]
    rw [snap_spc h.1 (os' := os'), snaps_spc h.2]
theorem callP_set {pc : Pr RT den} {ops : Array Oper} {p : Oper × Nat} {s s' : St RT den} {al : Nat} {ob : Ob RT den} (hal : al < s.objs.length) (hb : callP pc.has pc.gv pc.lend pc.dp pc.pl p.1.op = true) (ho : s'.objs = s.objs.set al ob) (h : ∀ t ∈ p.1.looksAt ops, s.get t = s'.get t) :
    ∀ r, stepEff E pc ops p s = some r → stepEff E pc ops p s' = some (r.1, r.2.set al ob) ∧ r.2[al]? = s.objs[al]? := by
  unfold callP at hb
  split at hb
  · rename_i f xs hx
    simp only [Bool.and_eq_true, Bool.not_eq_true'] at hb
    obtain ⟨h1, h2, h3⟩ := hb
    obtain ⟨args, ts, hop, rfl⟩ := xOf_call hx
    have hargs : E.args s (E.par f) args.toList = E.args s' (E.par f) args.toList := args_congr _ _ (fun u x hx => ev_congr h u x (fun t e => looksAt_op (by subst e; rw [hop]; simp only [Op.operands, Call.operands, Array.toList_append, List.mem_append]; exact .inr hx)))
    have core : ∀ r, turn E pc s p.1.type p.1.op = some r → turn E pc s' p.1.type p.1.op = some (r.1, r.2.set al ob) ∧ r.2[al]? = s.objs[al]? := by
      intro r hr
      unfold turn at hr ⊢
      rw [hx] at hr ⊢
      dsimp only at hr ⊢
      rw [← hargs]
      unfold callX at hr ⊢
      cases hgv : pc.gv f with
      | true => rw [hgv] at hr; cases hr
      | false =>
      try rw [hgv] at hr
      try rw [hgv]
      rw [h3, h1, h2] at hr ⊢
      simp only [cond_false, Bool.true_and, plOk2] at hr ⊢
      cases hp : (E.args s (E.par f) args.toList).all D.spc with
      | false => rw [hp] at hr; cases hr
      | true =>
        rw [hp] at hr
        simp only [Bool.not_true, cond_false, argsX, Option.bind_eq_some_iff] at hr ⊢
        obtain ⟨y, ⟨ys, hys, hy⟩, x, hfx, hb⟩ := hr
        have hy := Option.some.inj hy; subst hy
        simp only [backX] at hb
        cases hq : x.1.hs && x.2.all (Ob.flat E) with
        | false => rw [hq] at hb; cases hb
        | true =>
          rw [hq] at hb
          have hb := Option.some.inj hb; subst hb
          refine ⟨⟨(ys, [], []), ⟨ys, by rw [← hys]; exact (snaps_spc hp), rfl⟩, x, hfx, ?_⟩, by rw [List.getElem?_append_left hal]⟩
          simp only [backX, hq, cond_true, ho, List.length_set]
          rw [List.set_append_left _ _ hal]
    have skip : ∀ r : D RT den × List (Ob RT den), some (D.undef, s.objs) = some r → some (D.undef, s'.objs) = some (r.1, r.2.set al ob) ∧ r.2[al]? = s.objs[al]? := by
      intro r hr
      have hr := Option.some.inj hr; subst hr
      exact ⟨by rw [ho], rfl⟩
    intro r hr
    unfold stepEff at hr ⊢
    cases hg : p.1.guard with
    | none => rw [hg] at hr; exact core r hr
    | some jw =>
      rw [hg] at hr
      obtain ⟨j, want⟩ := jw
      dsimp only at hr ⊢
      cases hd : dstOf ops j with
      | none => rw [hd] at hr; cases hr
      | some tg =>
        rw [hd] at hr
        dsimp only at hr ⊢
        have hgg : s.get tg = s'.get tg := h tg (by
          unfold dstOf at hd
          simp only [Oper.looksAt, hg, List.mem_append]
          exact .inr (by simp [hd]))
        rw [← hgg]
        cases hv : s.get tg <;> rw [hv] at hr <;> try (cases hr; done)
        · rename_i b
          dsimp only at hr ⊢
          cases hw : (b == want) with
          | true => rw [hw] at hr; exact core r hr
          | false => rw [hw] at hr; exact skip r hr
        · exact skip r hr
  · cases hb
theorem storeOld_turn {has : Nat → Bool} {kz : Bool → Nat → Nat → Bool} {op : Op} (h : storeOld kz op = true) : isTurn has op = true := by
  cases op <;> first | rfl | (cases h; done)
theorem freeAt_get {os : List (Ob RT den)} {al : Nat} (h : freeAt os al = true) : os[al]? = some (.box false []) ∧ al < os.length := by
  unfold freeAt at h
  split at h
  · rename_i e; exact ⟨e, (List.getElem?_eq_some_iff.1 e).1⟩
  · cases h
theorem freeAt_of {os : List (Ob RT den)} {al : Nat} (h : os[al]? = some (.box false [])) : freeAt os al = true := by unfold freeAt; rw [h]
theorem litOp_get {o : Oper} {al : Nat} {s s' : St RT den} (h : litOp E o al s = some s') : ∃ ob n, litVal E o s = some (ob, n) ∧ s.objs[al]? = some (.box false []) ∧ s' = ({ s with objs := s.objs.set al ob } : St RT den).put o.dst (.os al n) := by
  simp only [litOp, Option.bind_eq_some_iff] at h
  obtain ⟨⟨ob, n⟩, v, h⟩ := h
  cases hf : freeAt s.objs al with
  | false => rw [hf] at h; cases h
  | true =>
    rw [hf] at h
    exact ⟨ob, n, v, (freeAt_get hf).1, (Option.some.inj h).symm⟩
theorem litOp_mk {o : Oper} {al n : Nat} {s : St RT den} {ob : Ob RT den} (hv : litVal E o s = some (ob, n)) (hf : s.objs[al]? = some (.box false [])) : litOp E o al s = some (({ s with objs := s.objs.set al ob } : St RT den).put o.dst (.os al n)) := by
  simp only [litOp, hv, Option.bind_some, freeAt_of hf, cond_true]
theorem callP_turn {has gv lend dp pl : Nat → Bool} {op : Op} (h : callP has gv lend dp pl op = true) : isTurn has op = true := by
  unfold callP at h
  split at h
  · rename_i f xs hx
    obtain ⟨args, ts, rfl, _⟩ := xOf_call hx
    simp only [isTurn, hx, Option.isSome_some, Bool.or_true]
  · cases h
theorem swap_lit1 {pc : Pr RT den} {ops : Array Oper} {fz : FzS} {p q : Oper × Nat} {al : Nat} {s s1 s2 : St RT den} (hf : Fz E ops fz s) (hal : fz.n ≤ al) (hal2 : al < s.objs.length) (hsw : (litSw fz q.1 || callP pc.has pc.gv pc.lend pc.dp pc.pl q.1.op) = true) (hap : p.1.apart ops q.1 = true) (h1 : litOp E p.1 al s = some s1) (h2 : stepOp E pc ops q s1 = some s2) :
    ∃ s1', stepOp E pc ops q s = some s1' ∧ litOp E p.1 al s1' = some s2 := by
  obtain ⟨a1, a2, a3⟩ := Oper.apart_spec hap
  obtain ⟨ob, n, v1, hfr, rfl⟩ := litOp_get h1
  have hslots : ∀ t ∈ q.1.looksAt ops, s.get t = (({ s with objs := s.objs.set al ob } : St RT den).put p.1.dst (.os al n)).get t := fun t ht => by
    cases hd : p.1.dst with
    | none => rfl
    | some d => exact (get_put (s := ({ s with objs := s.objs.set al ob } : St RT den)) (fun e => a1 d hd (by rw [← e]; exact ht))).symm
  have lits : ∀ (s' : St RT den) (d : D RT den), s'.slots = s.slots → litVal E p.1 (s'.put q.1.dst d) = some (ob, n) := fun s' d hs' => by
    rw [← v1]
    refine litVal_looks (ops := ops) (fun t ht => ?_)
    have : s'.get t = s.get t := by unfold St.get; rw [hs']
    cases hd : q.1.dst with
    | none => exact this
    | some i => exact (get_put (fun e => a3 i hd (by rw [← e]; exact ht))).trans this
  rcases Bool.or_eq_true _ _ ▸ hsw with hsw | hb
  rotate_left
  · have hq := callP_turn (has := pc.has) hb
    rw [stepOp_store hq, Option.bind_eq_some_iff] at h2
    obtain ⟨r, v2, e2⟩ := h2
    have e2 := Option.some.inj e2; subst e2
    have eo : (({ s with objs := s.objs.set al ob } : St RT den).put p.1.dst (.os al n)).objs = s.objs.set al ob := put_objs
    obtain ⟨c2, hget⟩ := callP_set (s := ({ s with objs := s.objs.set al ob } : St RT den).put p.1.dst (.os al n)) (s' := s) (al := al) (ob := .box false []) (by rw [eo, List.length_set]; exact hal2) hb (by
      rw [eo, List.set_set]
      refine List.ext_getElem? (fun i => ?_)
      by_cases e : al = i
      · subst e; rw [List.getElem?_set_self hal2, hfr]
      · rw [List.getElem?_set_ne e]) (fun t ht => (hslots t ht).symm) r v2
    rw [eo, List.getElem?_set_self hal2] at hget
    have hlt : al < r.2.length := (List.getElem?_eq_some_iff.1 hget).1
    refine ⟨({ s with objs := r.2.set al (.box false []) } : St RT den).put q.1.dst r.1, by rw [stepOp_store hq, c2]; rfl, ?_⟩
    rw [litOp_mk (lits ({ s with objs := r.2.set al (.box false []) } : St RT den) r.1 rfl) (by rw [put_objs]; exact List.getElem?_set_self hlt)]
    simp only [put_objs, Option.some.injEq]
    have e9 : (r.2.set al (.box false [])).set al ob = r.2 := by
      rw [List.set_set]
      refine List.ext_getElem? (fun i => ?_)
      by_cases e : al = i
      · subst e; rw [List.getElem?_set_self hlt, hget]
      · rw [List.getElem?_set_ne e]
    have e3 := put_with (s := ({ s with objs := r.2.set al (.box false []) } : St RT den)) (d := q.1.dst) (x := r.1) (os := (r.2.set al (.box false [])).set al ob)
    have e4 := put_with (s := ({ s with objs := s.objs.set al ob } : St RT den)) (d := p.1.dst) (x := .os al n) (os := r.2)
    rw [e9] at e3 ⊢
    rw [e3, e4]
    exact (put_comm a2).symm
  unfold litSw at hsw
  rcases Bool.or_eq_true _ _ ▸ hsw with hb | hb
  · have hqc := bf_calm (has := pc.has) (gv := pc.gv) hb
    rw [stepOp_still hqc, Option.bind_eq_some_iff] at h2
    obtain ⟨d, v2, e2⟩ := h2
    have e2 := Option.some.inj e2; subst e2
    have c2 : stepVal E pc.fn ops q s = some d := by rw [← v2]; exact bf_congr hf hb hslots
    refine ⟨s.put q.1.dst d, by rw [stepOp_still hqc, c2]; rfl, ?_⟩
    rw [litOp_mk (lits s d rfl) (by rw [put_objs]; exact hfr)]
    simp only [put_objs, Option.some.injEq]
    rw [put_with (s := s)]
    exact (put_comm a2).symm
  · have hq := storeOld_turn (has := pc.has) hb
    rw [stepOp_store hq, Option.bind_eq_some_iff] at h2
    obtain ⟨r, v2, e2⟩ := h2
    have e2 := Option.some.inj e2; subst e2
    obtain ⟨os, hos, hget, c2⟩ := (storeOld_set (pc := pc) (s' := (({ s with objs := s.objs.set al ob } : St RT den).put p.1.dst (.os al n))) (al := al) (ob := ob) hf hal hb (by rw [put_objs]) hslots).1 r v2
    refine ⟨({ s with objs := os } : St RT den).put q.1.dst r.1, by rw [stepOp_store hq, c2]; rfl, ?_⟩
    rw [litOp_mk (lits ({ s with objs := os } : St RT den) r.1 rfl) (by rw [put_objs]; exact hget.trans hfr)]
    simp only [put_objs, Option.some.injEq]
    rw [hos]
    have e3 := put_with (s := ({ s with objs := os } : St RT den)) (d := q.1.dst) (x := r.1) (os := os.set al ob)
    have e4 := put_with (s := ({ s with objs := s.objs.set al ob } : St RT den)) (d := p.1.dst) (x := .os al n) (os := os.set al ob)
    rw [e3, e4]
    exact (put_comm a2).symm
theorem swap_lit2 {pc : Pr RT den} {ops : Array Oper} {fz : FzS} {p q : Oper × Nat} {al : Nat} {s s1 s2 : St RT den} (hf : Fz E ops fz s) (hal : fz.n ≤ al) (hal2 : al < s.objs.length) (hsw : (litSw fz p.1 || callP pc.has pc.gv pc.lend pc.dp pc.pl p.1.op || calm pc.has pc.gv p.1.op) = true) (hap : p.1.apart ops q.1 = true) (h1 : stepOp E pc ops p s = some s1) (h2 : litOp E q.1 al s1 = some s2) :
    ∃ s1', litOp E q.1 al s = some s1' ∧ stepOp E pc ops p s1' = some s2 := by
  obtain ⟨a1, a2, a3⟩ := Oper.apart_spec hap
  obtain ⟨ob, n, v2, hfr, rfl⟩ := litOp_get h2
  have hslots : ∀ t ∈ p.1.looksAt ops, s.get t = (({ s with objs := s.objs.set al ob } : St RT den).put q.1.dst (.os al n)).get t := fun t ht => by
    cases hd : q.1.dst with
    | none => rfl
    | some d => exact (get_put (s := ({ s with objs := s.objs.set al ob } : St RT den)) (fun e => a3 d hd (by rw [← e]; exact ht))).symm
  have lits : ∀ (s' : St RT den) (d : D RT den), s'.slots = s.slots → litVal E q.1 (s'.put p.1.dst d) = litVal E q.1 s := fun s' d hs' => by
    refine litVal_looks (ops := ops) (fun t ht => ?_)
    have : s'.get t = s.get t := by unfold St.get; rw [hs']
    cases hd : p.1.dst with
    | none => exact this
    | some i => exact (get_put (fun e => a1 i hd (by rw [← e]; exact ht))).trans this
  have turns : ∀ (hq : isTurn pc.has p.1.op = true), (∀ r, stepEff E pc ops p s = some r → stepEff E pc ops p (({ s with objs := s.objs.set al ob } : St RT den).put q.1.dst (.os al n)) = some (r.1, r.2.set al ob) ∧ r.2[al]? = s.objs[al]?) →
      ∃ s1', litOp E q.1 al s = some s1' ∧ stepOp E pc ops p s1' = some (({ s1 with objs := s1.objs.set al ob } : St RT den).put q.1.dst (.os al n)) := by
    intro hq hst
    rw [stepOp_store hq, Option.bind_eq_some_iff] at h1
    obtain ⟨r, v1, e1⟩ := h1
    have e1 := Option.some.inj e1; subst e1
    rw [lits ({ s with objs := r.2 } : St RT den) r.1 rfl] at v2
    obtain ⟨c1, hget⟩ := hst r v1
    rw [put_objs] at hfr
    refine ⟨_, litOp_mk v2 (hget.symm.trans hfr), ?_⟩
    rw [stepOp_store hq, c1]
    simp only [Option.bind_some, put_objs, Option.some.injEq]
    have e3 := put_with (s := ({ s with objs := r.2 } : St RT den)) (d := p.1.dst) (x := r.1) (os := r.2.set al ob)
    have e4 := put_with (s := ({ s with objs := s.objs.set al ob } : St RT den)) (d := q.1.dst) (x := .os al n) (os := r.2.set al ob)
    rw [e3, e4]
    exact (put_comm a2).symm
  rcases Bool.or_eq_true _ _ ▸ hsw with hsw | hqc
  rotate_left
  · rw [stepOp_still hqc, Option.bind_eq_some_iff] at h1
    obtain ⟨d, v1, e1⟩ := h1
    have e1 := Option.some.inj e1; subst e1
    rw [lits s d rfl] at v2
    rw [put_objs] at hfr
    have c1 : stepVal E pc.fn ops p (({ s with objs := s.objs.set al ob } : St RT den).put q.1.dst (.os al n)) = some d := stepVal_mono (by rw [put_objs]; exact Ext.set hfr) hslots v1
    refine ⟨_, litOp_mk v2 hfr, ?_⟩
    rw [stepOp_still hqc, c1]
    simp only [Option.bind_some, put_objs, Option.some.injEq]
    rw [put_with (s := s)]
    exact (put_comm a2).symm
  rcases Bool.or_eq_true _ _ ▸ hsw with hsw | hb
  · unfold litSw at hsw
    rcases Bool.or_eq_true _ _ ▸ hsw with hb | hb
    · have hqc := bf_calm (has := pc.has) (gv := pc.gv) hb
      rw [stepOp_still hqc, Option.bind_eq_some_iff] at h1
      obtain ⟨d, v1, e1⟩ := h1
      have e1 := Option.some.inj e1; subst e1
      rw [lits s d rfl] at v2
      rw [put_objs] at hfr
      have c1 : stepVal E pc.fn ops p (({ s with objs := s.objs.set al ob } : St RT den).put q.1.dst (.os al n)) = some d := by rw [← v1]; exact (bf_congr hf hb hslots).symm
      refine ⟨_, litOp_mk v2 hfr, ?_⟩
      rw [stepOp_still hqc, c1]
      simp only [Option.bind_some, put_objs, Option.some.injEq]
      rw [put_with (s := s)]
      exact (put_comm a2).symm
    · exact turns (storeOld_turn hb) (storeOld_set hf hal hb (by rw [put_objs]) hslots).2
  · exact turns (callP_turn hb) (callP_set hal2 hb (by rw [put_objs]) hslots)
theorem Fz0.lit {pr : D RT den → Bool} (hc : PrC pr) {ops : Array Oper} {fz : Nat → Bool} {o : Oper} {al : Nat} {s s' : St RT den} (h : Fz0 pr ops fz s) (hp : o ∈ ops.toList) (hs : litOp E o al s = some s') : Fz0 pr ops fz s' := by
  obtain ⟨s0, h1, h2⟩ := h
  obtain ⟨ob, n, v1, _, rfl⟩ := litOp_get hs
  refine ⟨s0, h1, fun m t ht => ?_⟩
  have hold := h2 m t ht
  have hne : o.dst ≠ some t := by
    intro hd
    simp only [litVal, Option.bind_eq_some_iff] at v1
    obtain ⟨⟨c, r⟩, v1, _⟩ := v1
    cases m with
    | zero => cases ht
    | succ m =>
    simp only [fzB, Bool.and_eq_true, List.all_eq_true] at ht
    have := ht.2 o hp
    rw [hd] at this
    simp only [bne_self_eq_false, Bool.false_or] at this
    unfold litO at v1
    split at v1
    · rename_i ty len ps hg ho
      simp only [Option.bind_eq_some_iff] at v1
      obtain ⟨e, _, τ, _, z, _, zc, _, v1⟩ := v1
      split at v1
      · rename_i hk
        rw [ho] at this
        split at this <;> rename_i heq <;> first | (cases heq; done) | (cases this; done) | skip
        have : len = 0 := by injection heq
        omega
      · cases v1
    · rename_i ty l c hg ho
      rw [ho] at this
      cases this
    · cases v1
  cases hd : o.dst with
  | none => exact hold
  | some i =>
    rw [get_put (fun e => hne (by rw [hd, e]))]
    exact hold
theorem litOp_len {o : Oper} {al : Nat} {s s' : St RT den} (hs : litOp E o al s = some s') : s'.objs.length = s.objs.length := by
  obtain ⟨ob, n, _, _, rfl⟩ := litOp_get hs
  rw [put_objs]; simp
theorem Fz.lit {ops : Array Oper} {fz : FzS} {o : Oper} {al : Nat} {s s' : St RT den} (h : Fz E ops fz s) (hp : o ∈ ops.toList) (hs : litOp E o al s = some s') : Fz E ops fz s' := by
  obtain ⟨h1, ⟨n, h2, h3, h7, h8⟩, ⟨n', h4, h5⟩, h6⟩ := h
  have hl := Nat.le_of_eq (litOp_len hs).symm
  exact ⟨h1.lit prc_fzd hp hs, ⟨n, Nat.le_trans h2 hl, h3.lit (prc_oldd n) hp hs, h7.lit (prc_gd n) hp hs, h8⟩, ⟨n', ⟨Nat.le_trans h4.1 hl, h4.2⟩, fun b k => (h5 b k).lit (prc_kd b n' k) hp hs⟩, h6⟩
def PlaceOk (fz : FzS) (inls : List Nat) (n : Nat) (x : Nat × (Oper × Nat)) : Prop := ∀ site, siteOf inls x.1 = some site → isLitS site = true → fz.n ≤ x.2.2 + (site - 990) ∧ x.2.2 + (site - 990) < n
theorem swapJ (hE : Ok E P) {pc : Pr RT den} {inls : List Nat} {ops : Array Oper} {fz : FzS} {x y : Nat × (Oper × Nat)} {s s1 s2 : St RT den} (hf : Fz E ops fz s) (hpx : PlaceOk fz inls s.objs.length x) (hpy : PlaceOk fz inls s.objs.length y) (hsw : pairOk pc.has pc.gv pc.lend pc.dp pc.pl fz inls ops x.1 y.1 x.2.1 y.2.1 = true) (h1 : stepJ E pc inls ops x s = some s1) (h2 : stepJ E pc inls ops y s1 = some s2) :
    ∃ s1', stepJ E pc inls ops y s = some s1' ∧ stepJ E pc inls ops x s1' = some s2 := by
  unfold pairOk at hsw
  unfold stepJ at h1 h2 ⊢
  cases hx : siteOf inls x.1 with
  | none =>
    rw [hx] at hsw h1
    cases hy : siteOf inls y.1 with
    | none =>
      rw [hy] at hsw h2
      exact step_swap hE hf hsw h1 h2
    | some b =>
      rw [hy] at hsw h2
      simp only [Bool.and_eq_true] at hsw
      dsimp only at h1 h2 ⊢
      rw [hsw.1] at h2 ⊢
      obtain ⟨q1, q2⟩ := hpy b hy hsw.1
      exact swap_lit2 hf q1 q2 hsw.2.1 hsw.2.2 h1 h2
  | some a =>
    rw [hx] at hsw h1
    cases hy : siteOf inls y.1 with
    | none =>
      rw [hy] at hsw h2
      simp only [Bool.and_eq_true] at hsw
      dsimp only at h1 h2 ⊢
      rw [hsw.1] at h1 ⊢
      exact swap_lit1 hf (hpx a hx hsw.1).1 (hpx a hx hsw.1).2 hsw.2.1 hsw.2.2 h1 h2
    | some b => rw [hy] at hsw; cases hsw
theorem Fz.stepJ {pc : Pr RT den} {inls : List Nat} {ops : Array Oper} {fz : FzS} {x : Nat × (Oper × Nat)} {s s' : St RT den} (h : Fz E ops fz s) (hp : x.2.1 ∈ ops.toList) (hs : stepJ E pc inls ops x s = some s') : Fz E ops fz s' := by
  unfold Vm.stepJ at hs
  split at hs
  · exact h.step hp hs
  · rename_i site _
    cases hb : isLitS site with
    | true => rw [hb] at hs; exact h.lit hp hs
    | false => rw [hb] at hs; cases hs
theorem stepJ_len {pc : Pr RT den} {inls : List Nat} {ops : Array Oper} {x : Nat × (Oper × Nat)} {s s' : St RT den} (hs : stepJ E pc inls ops x s = some s') : s.objs.length ≤ s'.objs.length := by
  unfold stepJ at hs
  split at hs
  · exact stepOp_len hs
  · rename_i site _
    cases hb : isLitS site with
    | true => rw [hb] at hs; exact Nat.le_of_eq (litOp_len hs).symm
    | false => rw [hb] at hs; cases hs
end Go.Proofs.Ytcmfekgdlaffkaa.Vm
