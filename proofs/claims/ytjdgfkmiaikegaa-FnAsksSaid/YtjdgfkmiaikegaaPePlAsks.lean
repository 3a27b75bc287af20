/- The law of timeouts, of what is asked and of what is sent. Conditions: none. -/
import Derived.Test.YtjdgfkmiaikegaaPePlAsk2
import Derived.Test.YtjdgfkmiaikegaaPePlDraw2
namespace Go.Proofs.Ytjdgfkmiaikegaa.Pe
open Go Go.RowKit Go.Proofs Vm
set_option linter.unusedVariables false
set_option linter.unusedSimpArgs false
set_option maxRecDepth 100000
theorem scan_someL {α : Type} {f : Nat → Option α} {a : α} : ∀ {m i : Nat}, scan f m i = some a → ∃ j, i ≤ j ∧ j < i + m ∧ f j = some a
 | 0, i, h => by simp [scan_zero] at h
 | m + 1, i, h => by
  rw [scan_succ] at h
  cases hq : f i with
  | some b =>
   rw [hq] at h
   have h := Option.some.inj h; subst h
   exact ⟨i, Nat.le_refl _, by omega, hq⟩
  | none =>
   rw [hq] at h
   obtain ⟨j, h1, h2, h3⟩ := scan_someL h
   exact ⟨j, by omega, by omega, h3⟩
theorem logf_iff {x : Sl S_impl_Entry} : logf x = 0 ↔ x.n ≤ 40 ∧ ∀ i, i < x.n → entf (x.f i) = 0 ∧ (0 < i → (x.f (i - 1)).Term ≤ (x.f i).Term) := by
 constructor
 ·intro h
  have hn := logf_len h
  refine ⟨hn, fun i hi => ?_⟩
  unfold logf at h
  rw [if_neg (by omega)] at h
  have hs : scan (logAt x) x.n 0 = none := by
   cases hq : scan (logAt x) x.n 0 with
   | none => rfl
   | some c =>
    exfalso
    rw [hq] at h
    simp only [Option.getD_some] at h
    subst h
    obtain ⟨j, _, _, hj⟩ := scan_someL hq
    unfold logAt at hj
    cases h1 : (entf (x.f j) != 0) with
    | true =>
     rw [h1] at hj
     simp only [cond_true, Option.some.injEq] at hj
     rw [hj] at h1; cases h1
    | false =>
     rw [h1] at hj
     simp only [cond_false] at hj
     cases h2 : (decide (0 < j) && decide ((x.f j).Term < (x.f (j - 1)).Term)) with
     | true => rw [h2] at hj; cases hj
     | false => rw [h2] at hj; cases hj
  have := scan_none.1 hs i (by omega) (by omega)
  unfold logAt at this
  cases h1 : (entf (x.f i) != 0) with
  | true => rw [h1] at this; cases this
  | false =>
   rw [h1] at this
   simp only [cond_false] at this
   refine ⟨by simpa using h1, fun h0 => ?_⟩
   cases h2 : (decide (0 < i) && decide ((x.f i).Term < (x.f (i - 1)).Term)) with
   | true => rw [h2] at this; cases this
   | false =>
    simp only [h0, decide_true, Bool.true_and, decide_eq_false_iff_not] at h2
    omega
 ·rintro ⟨hn, h⟩
  unfold logf
  rw [if_neg (by omega)]
  have hs : scan (logAt x) x.n 0 = none := scan_none.2 (fun i _ hi => by
   obtain ⟨h1, h2⟩ := h i (by omega)
   unfold logAt
   rw [h1]
   simp only [bne_self_eq_false, cond_false]
   by_cases h0 : 0 < i
   ·have := h2 h0
    have : ¬ (x.f i).Term < (x.f (i - 1)).Term := by omega
    simp only [this, decide_false, Bool.and_false, cond_false]
   ·simp only [h0, decide_false, Bool.false_and, cond_false])
  rw [hs]; rfl
theorem right_head {x : S_impl_Node} (h : (nodef x != 0) = false) : (-1 ≤ x.Voted ∧ x.Voted ≤ x.Peers - 1) ∧ 0 ≤ x.Role ∧ x.Role ≤ 2 := by
 have h : nodef x = 0 := by simpa using h
 unfold nodef at h
 cases h1 : head x with
 | false => rw [h1] at h; cases h
 | true =>
 unfold head at h1
 simp only [Bool.and_eq_true, rng_iff] at h1
 obtain ⟨p, i, t, v, r⟩ := h1
 have e : pm x = x.Peers - 1 := by unfold pm; rw [wrap64 (by omega) (by omega)]
 rw [e] at v
 exact ⟨v, r⟩
theorem nodef_of {x : S_impl_Node} (p : 1 ≤ x.Peers ∧ x.Peers ≤ 5) (i : 0 ≤ x.Id ∧ x.Id < x.Peers) (t : 0 ≤ x.Term ∧ x.Term ≤ 100000) (v : -1 ≤ x.Voted ∧ x.Voted ≤ x.Peers - 1) (r : 0 ≤ x.Role ∧ x.Role ≤ 2) (l : logf x.Log = 0)
  (la : (lastE x.Log).Term ≤ x.Term) (c : 0 ≤ x.Commit ∧ x.Commit ≤ (x.Log.n : Int)) (li : lists x = true) (fi : (nexts x && matchs x) = true) (ro : roleBad x = false) : nodef x = 0 := by
 have e : pm x = x.Peers - 1 := by unfold pm; rw [wrap64 (by omega) (by omega)]
 have hh : head x = true := by
  unfold head
  simp only [Bool.and_eq_true, rng_iff, e]
  omega
 have hl : decide ((lastE x.Log).Term > x.Term) = false := decide_eq_false (by omega)
 have hc : rng x.Commit 0 (x.Log.n : Int) = true := rng_iff.2 c
 unfold nodef
 rw [hh, l, hl, hc, li, fi, ro]
 rfl
theorem agr_range (p t c : Int) (n m : Nat) (f : Nat → S_impl_Entry) (g : Nat → Int) (h : c ≤ n) : c ≤ agr p t n f m g c ∧ agr p t n f m g c ≤ n := by
 unfold agr
 cases hq : scan (agrAt p t n f m g) ((n : Int) - c).toNat 0 with
 | none => exact ⟨Int.le_refl _, h⟩
 | some z =>
  obtain ⟨j, _, h2, h3⟩ := scan_someL hq
  unfold agrAt at h3
  rw [Bool.cond_eq_ite] at h3
  split at h3
  ·have h3 := Option.some.inj h3
   simp only [Option.getD_some]
   omega
  ·cases h3
theorem agr_top (p t c : Int) (n m : Nat) (f : Nat → S_impl_Entry) (g : Nat → Int) (h : c ≤ n) (h1 : IntKind.wrap .i64 (2 * cnt g (n : Int) m) > p) (h2 : (f (n - 1)).Term = t) : agr p t n f m g c = n := by
 unfold agr
 by_cases he : c = n
 ·subst he
  rw [show ((n : Int) - (n : Int)).toNat = 0 by omega, scan_zero]
  rfl
 ·obtain ⟨k, hk⟩ : ∃ k, ((n : Int) - c).toNat = k + 1 := ⟨((n : Int) - c).toNat - 1, by omega⟩
  have ha : agrAt p t n f m g 0 = some (n : Int) := by
   unfold agrAt
   rw [show (n : Int) - ((0 : Nat) : Int) = (n : Int) by omega, show n - 0 - 1 = n - 1 by omega, h2]
   simp only [h1, decide_true, beq_self_eq_true, Bool.and_self, cond_true]
  rw [hk, scan_succ, ha]
  rfl
theorem lastE_some {l : Sl S_impl_Entry} (h : 0 < l.n) : lastE l = l.f (l.n - 1) := by
 unfold lastE; rw [if_neg (by omega)]
theorem nA_eq {x : S_impl_Node} (h : 0 ≤ x.Id) : ∀ i, nA x i = if x.Id.toNat < i then i - 1 else i
 | 0 => by simp [nA]
 | i + 1 => by
  have ih := nA_eq h i
  unfold nA
  rw [ih]
  by_cases e : (i : Int) = x.Id
  ·have : ((i : Int) != x.Id) = false := by simp [e]
   rw [this]
   simp only [cond_false]
   rw [if_neg (by omega), if_pos (by omega)]
   omega
  ·have : ((i : Int) != x.Id) = true := by simp [e]
   rw [this]
   simp only [cond_true]
   by_cases h2 : x.Id.toNat < i
   ·rw [if_pos h2, if_pos (by omega)]; omega
   ·rw [if_neg h2, if_neg (by omega)]
theorem time_cand {x : S_impl_Node} (h1 : (nodef x != 0) = false) (h2 : (x.Role == 2) = false) (h3 : (x.Term == 100000) = false) : nodef (candN x) = 0 := by
 have hR := nodef_right h1
 obtain ⟨hv, hr⟩ := right_head h1
 have hp := hR.peers
 have hi := hR.id
 have ht := hR.term
 have e3 : x.Term ≠ 100000 := by simpa using h3
 have et : IntKind.wrap .i64 (x.Term + 1) = x.Term + 1 := wrap64 (by omega) (by omega)
 have hw : want x = 0 := by unfold want; rw [h2]; rfl
 have hn : x.Next.n = 0 := by have := hR.next; rw [hw] at this; omega
 have hm : x.Match.n = 0 := by have := hR.mat; rw [hw] at this; omega
 have hla := hR.last
 have epm : pm (candN x) = x.Peers - 1 := by unfold pm; exact wrap64 (by show _ ≤ x.Peers - 1; omega) (by show x.Peers - 1 ≤ _; omega)
 have hli : lists (candN x) = true := by
  unfold lists rise ids
  rw [epm]
  simp only [Bool.and_eq_true]
  refine ⟨allb_iff.2 (fun i hi => ?_), ?_, allb_iff.2 (fun i hi' => ?_), ?_, ?_⟩
  ·have : i = 0 := by have : i < 1 := hi; omega
   subst this; rfl
  ·have : ((candN x).Role != 1) = false := rfl
   rw [this, Bool.and_false]; rfl
  ·have : i = 0 := by have : i < 1 := hi'; omega
   subst this
   exact rng_iff.2 ⟨hi.1, by show x.Id ≤ _; omega⟩
  ·show ((x.Next.n : Int) == 0) = true
   rw [hn]; rfl
  ·show ((x.Match.n : Int) == 0) = true
   rw [hm]; rfl
 have hfi : (nexts (candN x) && matchs (candN x)) = true := by
  unfold nexts matchs
  simp only [Bool.and_eq_true]
  refine ⟨allb_iff.2 (fun i hi => ?_), allb_iff.2 (fun i hi => ?_)⟩
  ·have : i < x.Next.n := hi; omega
  ·have : i < x.Match.n := hi; omega
 have hro : roleBad (candN x) = false := by
  unfold roleBad
  have e1 : ((candN x).Voted != (candN x).Id) = false := by show (x.Id != x.Id) = false; simp
  have e2 : ((candN x).Term == 0) = false := by show (IntKind.wrap .i64 (x.Term + 1) == 0) = false; rw [et]; simp; omega
  rw [e1, e2]; simp
 exact nodef_of (x := candN x) hp hi (by show 0 ≤ IntKind.wrap .i64 (x.Term + 1) ∧ IntKind.wrap .i64 (x.Term + 1) ≤ 100000; rw [et]; omega) (by show -1 ≤ x.Id ∧ x.Id ≤ x.Peers - 1; omega) (by show (0 : Int) ≤ 1 ∧ (1 : Int) ≤ 2; omega)
  hR.log (by show (lastE x.Log).Term ≤ IntKind.wrap .i64 (x.Term + 1); rw [et]; omega) hR.commit hli hfi hro
theorem time_lead {x : S_impl_Node} (h1 : (nodef x != 0) = false) (h3 : (x.Term == 100000) = false) (h4 : decide ((2 : Int) > x.Peers) = true) : nodef (leadN x) = 0 := by
 have hR := nodef_right h1
 have hp := hR.peers
 have hi := hR.id
 have ht := hR.term
 have hc := hR.commit
 have h4 := of_decide_eq_true h4
 have hp1 : x.Peers = 1 := by omega
 have hi0 : x.Id = 0 := by omega
 have e3 : x.Term ≠ 100000 := by simpa using h3
 have hl := logf_len hR.log
 have et : IntKind.wrap .i64 (x.Term + 1) = x.Term + 1 := wrap64 (by omega) (by omega)
 have hla := hR.last
 have ha := agr_range x.Peers (IntKind.wrap .i64 (x.Term + 1)) x.Commit x.Log.n 1 x.Log.f (matL x) hc.2
 have hli : lists (leadN x) = true := by
  unfold lists rise ids
  simp only [Bool.and_eq_true]
  refine ⟨rfl, rfl, rfl, ?_, ?_⟩
  ·show ((1 : Int) == x.Peers) = true
   rw [hp1]; rfl
  ·show ((1 : Int) == x.Peers) = true
   rw [hp1]; rfl
 have hfi : (nexts (leadN x) && matchs (leadN x)) = true := by
  unfold nexts matchs
  simp only [Bool.and_eq_true]
  refine ⟨allb_iff.2 (fun i hi => ?_), allb_iff.2 (fun i hi => ?_)⟩
  ·have : i = 0 := by have : i < 1 := hi; omega
   subst this
   have e : (leadN x).Next.f 0 = IntKind.wrap .i64 ((x.Log.n : Int) + 1) := rfl
   rw [e, wrap64 (by omega) (by omega)]
   exact rng_iff.2 ⟨by omega, Int.le_refl _⟩
  ·have : i = 0 := by have : i < 1 := hi; omega
   subst this
   have e : (leadN x).Match.f 0 = (x.Log.n : Int) := by
    show (if 0 = x.Id.toNat then (x.Log.n : Int) else 0) = _
    rw [hi0]; rfl
   rw [e]
   exact rng_iff.2 ⟨by omega, Int.le_refl _⟩
 have hro : roleBad (leadN x) = false := by
  unfold roleBad
  have e1 : ((leadN x).Voted != (leadN x).Id) = false := by show (x.Id != x.Id) = false; simp
  have e2 : ((leadN x).Term == 0) = false := by show (IntKind.wrap .i64 (x.Term + 1) == 0) = false; rw [et]; simp; omega
  rw [e1, e2]; simp
 exact nodef_of (x := leadN x) hp hi (by show 0 ≤ IntKind.wrap .i64 (x.Term + 1) ∧ IntKind.wrap .i64 (x.Term + 1) ≤ 100000; rw [et]; omega) (by show -1 ≤ x.Id ∧ x.Id ≤ x.Peers - 1; omega) (by show (0 : Int) ≤ 2 ∧ (2 : Int) ≤ 2; omega)
  hR.log (by show (lastE x.Log).Term ≤ IntKind.wrap .i64 (x.Term + 1); rw [et]; omega) (by show 0 ≤ agr _ _ _ _ _ _ _ ∧ agr _ _ _ _ _ _ _ ≤ (x.Log.n : Int); omega) hli hfi hro
theorem behindE_old {l : Sl S_impl_Entry} {e : S_impl_Entry} {i : Nat} (h : i < l.n) : behindE l e i = l.f i := by unfold behindE; exact if_pos h
theorem behindE_new {l : Sl S_impl_Entry} {e : S_impl_Entry} : behindE l e l.n = e := by
 unfold behindE
 rw [if_neg (Nat.lt_irrefl _), Nat.sub_self]
 rfl
theorem ask_right {x : S_impl_Node} {e : S_impl_Entry} (h1 : (nodef x != 0) = false) (h2 : (x.Role != 2) = false) (h3 : entf e = 0) (h4 : e.Term = x.Term) (h5 : x.Log.n < 40) : nodef (askN x e) = 0 := by
 have hR := nodef_right h1
 obtain ⟨hv, hr⟩ := right_head h1
 have hp := hR.peers
 have hi := hR.id
 have hc := hR.commit
 have hla := hR.last
 have hro := hR.role
 have e2 : x.Role = 2 := by simpa using h2
 have hw : want x = x.Peers := by unfold want; rw [e2]; rfl
 have hf := hR.fits
 simp only [Bool.and_eq_true] at hf
 have ha := agr_range x.Peers x.Term x.Commit (x.Log.n + 1) x.Match.n (behindE x.Log e) (fun j => if j = x.Id.toNat then ((x.Log.n + 1 : Nat) : Int) else x.Match.f j) (by omega)
 have hlog : logf (askN x e).Log = 0 := by
  obtain ⟨_, g⟩ := logf_iff.1 hR.log
  refine logf_iff.2 ⟨by show x.Log.n + 1 ≤ 40; omega, fun i hi => ?_⟩
  have hi : i < x.Log.n + 1 := hi
  show entf (behindE x.Log e i) = 0 ∧ (0 < i → (behindE x.Log e (i - 1)).Term ≤ (behindE x.Log e i).Term)
  by_cases hlt : i < x.Log.n
  ·rw [behindE_old hlt]
   refine ⟨(g i hlt).1, fun h0 => ?_⟩
   rw [behindE_old (show i - 1 < x.Log.n by omega)]
   exact (g i hlt).2 h0
  ·have : i = x.Log.n := by omega
   subst this
   rw [behindE_new]
   refine ⟨h3, fun h0 => ?_⟩
   rw [behindE_old (show x.Log.n - 1 < x.Log.n by omega), h4]
   rw [lastE_some h0] at hla
   exact hla
 have hlast : (lastE (askN x e).Log).Term = x.Term := by
  rw [lastE_some (show 0 < (askN x e).Log.n from Nat.succ_pos _)]
  show (behindE x.Log e (x.Log.n + 1 - 1)).Term = x.Term
  rw [Nat.add_sub_cancel, behindE_new, h4]
 have hli : lists (askN x e) = true := by
  have h := hR.lists
  unfold lists at h ⊢
  exact h
 have hfi : (nexts (askN x e) && matchs (askN x e)) = true := by
  unfold nexts matchs at hf ⊢
  simp only [Bool.and_eq_true]
  refine ⟨allb_iff.2 (fun i hi => ?_), allb_iff.2 (fun i hi => ?_)⟩
  ·have h := rng_iff.1 (allb_iff.1 hf.1 i hi)
   show rng (if i = x.Id.toNat then ((x.Log.n + 1 : Nat) : Int) + 1 else x.Next.f i) 1 (((x.Log.n + 1 : Nat) : Int) + 1) = true
   refine rng_iff.2 ?_
   split <;> omega
  ·have h := rng_iff.1 (allb_iff.1 hf.2 i hi)
   show rng (if i = x.Id.toNat then ((x.Log.n + 1 : Nat) : Int) else x.Match.f i) 0 ((x.Log.n + 1 : Nat) : Int) = true
   refine rng_iff.2 ?_
   split <;> omega
 exact nodef_of (x := askN x e) hp hi hR.term hv hr hlog (by rw [hlast]; exact Int.le_refl _) (by show 0 ≤ agr _ _ _ _ _ _ _ ∧ agr _ _ _ _ _ _ _ ≤ ((x.Log.n + 1 : Nat) : Int); omega) hli hfi hro
theorem ask_commit {x : S_impl_Node} {e : S_impl_Entry} (h1 : (nodef x != 0) = false) (h2 : (x.Role != 2) = false) (h4 : e.Term = x.Term) (h5 : x.Peers = 1) : (askN x e).Commit = ((x.Log.n + 1 : Nat) : Int) := by
 have hR := nodef_right h1
 have hc := hR.commit
 have hi := hR.id
 obtain ⟨i1, _⟩ := right_lead hR h2
 have e2 : x.Role = 2 := by simpa using h2
 have hm : x.Match.n = 1 := by
  have := hR.mat
  rw [show want x = x.Peers by unfold want; rw [e2]; rfl, h5] at this
  omega
 have hi0 : x.Id.toNat = 0 := by omega
 show agr x.Peers x.Term (x.Log.n + 1) (behindE x.Log e) x.Match.n (fun j => if j = x.Id.toNat then ((x.Log.n + 1 : Nat) : Int) else x.Match.f j) x.Commit = _
 refine agr_top _ _ _ _ _ _ _ (by omega) ?_ ?_
 ·rw [hm, hi0, h5]
  have : cnt (fun j => if j = 0 then ((x.Log.n + 1 : Nat) : Int) else x.Match.f j) ((x.Log.n + 1 : Nat) : Int) 1 = 1 := by
   simp only [cnt, if_true, ge_iff_le, Int.le_refl, decide_true, cond_true]
   rfl
  rw [this]
  decide
 ·rw [Nat.add_sub_cancel, behindE_new, h4]
theorem askT_ok {x : S_impl_Node} {e : S_impl_Entry} (h : ((askT x e).1 != 0) = false) : askT x e = nodeT 0 (askN x e) 0 (fun _ => dflt .impl_Mail) ∧ (nodef x != 0) = false ∧ (x.Role != 2) = false ∧ entf e = 0 ∧ e.Term = x.Term ∧ x.Log.n < 40 := by
 unfold askT at h ⊢
 cases h1 : (nodef x != 0) with
 | true =>
  rw [h1] at h
  have h : (nodef x != 0) = false := h
  rw [h1] at h; cases h
 | false =>
 rw [h1] at h
 cases h2 : (x.Role != 2) with
 | true => rw [h2] at h; cases h
 | false =>
 rw [h2] at h
 cases h3 : (entf e != 0) with
 | true =>
  rw [h3] at h
  have h : (entf e != 0) = false := h
  rw [h3] at h; cases h
 | false =>
 rw [h3] at h
 cases h4 : (e.Term != x.Term) with
 | true => rw [h4] at h; cases h
 | false =>
 rw [h4] at h
 cases h5 : decide (40 ≤ x.Log.n) with
 | true => rw [h5] at h; cases h
 | false =>
 have := of_decide_eq_false h5
 exact ⟨rfl, rfl, rfl, by simpa using h3, by simpa using h4, by omega⟩
theorem askN_len {x : S_impl_Node} {e : S_impl_Entry} (hx : NodeLen x) (h : x.Log.n < 40) : NodeLen (askN x e) := ⟨show x.Log.n + 1 ≤ 1048576 by omega, hx.votes, hx.next, hx.mat⟩
end Go.Proofs.Ytjdgfkmiaikegaa.Pe

