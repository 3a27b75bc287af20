
/- The value machine: each operation that turns no object does on the machine what the evaluator says. Conditions: none. -/
import Derived.Test.YtcmfekgdlaffkaaVmB
namespace Go.Proofs.Ytcmfekgdlaffkaa.Vm
open Go Go.RowKit
set_option linter.unusedVariables false
set_option linter.unusedSimpArgs false
variable {RT : Type} {den : RT → Type} {E : Env RT den} {P : Program}
theorem noBet_le (β : Bet) : noBet.le β := ⟨fun _ _ h => (by cases h), fun _ _ _ h => (by cases h)⟩
theorem VRep.up {F : Frz} {w : World} {β : Bet} {d : D RT den} {v : Value} (h : VRep E F w noBet d v) : VRep E F w β d v := h.mono (fun _ _ h => h) (Keeps.refl _ _) (noBet_le β)
theorem VRep.ofValue {F : Frz} {w : World} {β : Bet} (τ : Option RT) (v : Value) : VRep E F w β (ofValue τ v) v := by
 unfold Vm.ofValue
 split
 ·exact .int _ _
 ·exact .bool _
 ·exact .str _
 ·split
  ·rename_i τ'
   exact .emp true τ' none (by simp) (by simp) (by simp)
  ·exact .q _
 ·exact .nil
 ·exact .q _
theorem get_rep {F0 : Was} {w0 : World} {F : Frz} {β : Bet} {s : St RT den} {a : Act} {w : World} (h : Rel E F0 w0 F β s a w) (i : Nat) : VRep E F w β (s.get i) (a.tmps.getD i Go.undef) := by
 unfold St.get
 cases hq : s.slots[i]? with
 | some d => simpa [List.getD_eq_getElem?_getD, hq] using h.slots i d hq
 | none =>
  have h1 : ¬ i < a.tmps.size := by rw [h.size]; simpa using hq
  have h2 : a.tmps.getD i Go.undef = Go.undef := by simp [Array.getD, h1]
  rw [h2]
  simpa [List.getD_eq_getElem?_getD, hq] using VRep.undef
theorem ev_rep {F0 : Was} {w0 : World} {F : Frz} {β : Bet} {s : St RT den} {a : Act} {w : World} (h : Rel E F0 w0 F β s a w) (t : Nat) (x : Operand) : VRep E F w β (E.ev s t x) (a.eval x) := by
 cases x with
 | tmp i => exact get_rep h i
 | const v => exact .ofValue _ v
 | global g => exact .q _
 | func f => exact .fn f [] #[] rfl (by simp)
theorem obj_some {os : List (Ob RT den)} {o : Nat} {ob : Ob RT den} (h : obj os o = ob) (hg : ob ≠ .gone) : os[o]? = some ob := by
 unfold obj at h
 cases hq : os[o]? with
 | some x => simp [List.getD_eq_getElem?_getD, hq] at h; rw [h]
 | none => simp [List.getD_eq_getElem?_getD, hq] at h; exact absurd h.symm hg
theorem getD_some {l : Array Value} {i : Nat} (h : i < l.size) : l[i]? = some (l.getD i Go.undef) := by simp [Array.getD, h]
theorem cell_own {w : World} {b j : Nat} {cur : Array Value} {e : TypeId} {fr : Nat × Nat} (hh : w.heap[b]? = some (.cells cur e fr)) (h : j < cur.size) : w.cell? (at' b j) = some (cur.getD j Go.undef) := by
 unfold World.cell?
 simp only [at', hh]
 exact getD_some h
theorem cellsAt_rep (hE : Ok E P) {F0 : Was} {w0 : World} {F : Frz} {β : Bet} {s : St RT den} {a : Act} {w : World} (h : Rel E F0 w0 F β s a w) {p : D RT den} {v : Value} {cs : List (D RT den)}
  (hp : VRep E F w β p v) (hc : cellsAt E s.objs p = some cs) :
  ∃ (b o : Nat) (u : Nat → Value), v = .pointer (some (at' b o)) ∧ ∀ j c, cs[j]? = some c → w.cell? (at' b (o + j)) = some (u j) ∧ VRep E F w β c (u j) := by
 cases hp with
 | ref o off b m hb =>
  simp only [cellsAt] at hc
  split at hc
  ·rename_i cs0 hob
   cases hlt0 : Nat.blt off cs0.length with
   | false => rw [hlt0] at hc; cases hc
   | true =>
   rw [hlt0] at hc
   have hc := Option.some.inj hc; subst hc
   obtain ⟨cur, e, hh, hs, hr⟩ := h.objs o _ (obj_some hob (by simp)) b m hb
   refine ⟨b, off, fun j => cur.getD (off + j) Go.undef, rfl, fun j c hj => ?_⟩
   rw [List.getElem?_drop] at hj
   have hlt : off + j < cur.size := by rw [hs]; exact (List.getElem?_eq_some_iff.1 hj).1
   exact ⟨cell_own hh hlt, hr _ _ hj⟩
  ·simp at hc
 | rptr cs0 b o u h1 h2 =>
  simp [cellsAt] at hc; subst hc
  exact ⟨b, o, u, rfl, fun j c hj => ⟨(h2 j (List.getElem?_eq_some_iff.1 hj).1).2, (h1 j c hj).up⟩⟩
 | eref o sz j off b m hb hjm =>
  simp only [cellsAt] at hc
  split at hc
  ·rename_i τ n f hob
   split at hc
   ·rename_i hk
    simp at hc; subst hc
    obtain ⟨hmn, ⟨hm1, hm2⟩, cur, e, hh, hs, hr⟩ := h.objs o _ (obj_some hob (by simp)) b m hb
    subst hmn
    refine ⟨b, j * sz + off, fun i => cur.getD (j * sz + off + i) Go.undef, rfl, fun i c hi => ?_⟩
    rw [List.getElem?_drop] at hi
    have hl : off + i < E.size τ := by rw [← hE.size τ (f j)]; exact (List.getElem?_eq_some_iff.1 hi).1
    have hlt : j * sz + off + i < cur.size := by
     rw [hs]
     have : (j + 1) * E.size τ ≤ m.2 * E.size τ := Nat.mul_le_mul_right _ (by omega)
     rw [Nat.add_mul] at this
     rw [← hk]
     omega
    have hq := hr j (off + i) c hjm hi
    rw [hk, show j * sz + (off + i) = j * sz + off + i by omega] at hq
    exact ⟨cell_own hh hlt, hq.up⟩
   ·simp at hc
  ·simp at hc
 | _ => simp [cellsAt] at hc
theorem sub_get {cs cs' : List (D RT den)} {o n : Nat} (h : sub cs o n = some cs') : cs'.length = n ∧ ∀ j c, cs'[j]? = some c → cs[o + j]? = some c := by
 unfold sub at h
 split at h
 ·rename_i hl
  simp at h; subst h
  refine ⟨by simp; omega, fun j c hj => ?_⟩
  rw [List.getElem?_take] at hj
  split at hj
  ·simpa [List.getElem?_drop] using hj
  ·simp at hj
 ·simp at h
theorem one_some {cs : List (D RT den)} {d : D RT den} (h : one cs = some d) : cs = [d] := by
 unfold one at h; split at h <;> simp_all
theorem run_loadAt_one {w : World} {t : Nat} {p : Addr} {v : Value} {d : TypeDesc} (hu : P.underlying t = some d) (hd : d.isRow = false) (hc : w.cell? p = some v) :
  (Instr.loadAt t (.pointer (some p))).run P w = .ok v w := by
 have hagg : (isAgg t).run P w = .ok false w := by
  unfold isAgg
  rw [Sem.run_bind, run_underlying hu w]
  cases d <;> simp_all
 simp [Instr.loadAt, Instr.sureAddr, loadVar, Sem.run_bind, hagg, hc]
theorem load_rep (hE : Ok E P) {F0 : Was} {w0 : World} {F : Frz} {β : Bet} {s : St RT den} {a : Act} {w : World} (h : Rel E F0 w0 F β s a w) {t : Nat} {p d : D RT den} {v : Value}
  (hp : VRep E F w β p v) (hl : load E s.objs t p = some d) : ∃ x, (Instr.loadAt t v).run P w = .ok x w ∧ VRep E F w β d x := by
 simp only [load, Option.bind_eq_some_iff] at hl
 obtain ⟨cs, hcs, n, hn, cs', hs, g, hg, hd⟩ := hl
 obtain ⟨b, o, u, rfl, hu⟩ := cellsAt_rep hE h hp hcs
 obtain ⟨hlen, hsub⟩ := sub_get hs
 obtain ⟨desc, hdesc, hrow⟩ := hE.agg t g hg
 cases g with
 | true =>
  simp [ofCells] at hd; subst hd
  have hlist : ∀ j c, cs'[j]? = some c → w.cell? (at' b (o + j)) = some (u j) ∧ VRep E F w β c (u j) := fun j c hj => by
   have := hsub j c hj
   rw [Nat.zero_add] at this
   exact hu j c this
  refine ⟨.agg ((List.range n).map u).toArray, ?_, ?_⟩
  ·refine run_loadAt_mid w b o t _ desc (fun j v hv => ?_) hdesc hrow (by simpa using hE.sz t n hn)
   simp only [List.getElem?_map] at hv
   rcases hj : (List.range n)[j]? with _ | j'
   ·simp [hj] at hv
   ·have hjn : j < n ∧ j' = j := by
     rw [List.getElem?_eq_some_iff] at hj
     obtain ⟨h1, h2⟩ := hj
     simp at h1 h2; exact ⟨h1, h2.symm⟩
    simp [hj] at hv
    rw [← hv, hjn.2]
    exact (hlist j cs'[j] (List.getElem?_eq_getElem (by omega))).1
  ·refine .agg cs' _ (by simp [hlen]) (fun j c hc => ?_)
   have hj : j < n := by rw [← hlen]; exact (List.getElem?_eq_some_iff.1 hc).1
   have : (((List.range n).map u).toArray).getD j Go.undef = u j := by simp [Array.getD, hj]
   rw [this]
   exact (hlist j c hc).2
 | false =>
  simp only [ofCells, cond_false] at hd
  have := one_some hd; subst this
  have hq := hu 0 d (by simpa using hsub 0 d rfl)
  exact ⟨u 0, run_loadAt_one hdesc hrow (by simpa using hq.1), hq.2⟩
theorem TRep.sce {F : Frz} {w : World} {β : Bet} {H : List Nat → Option (Nat × (Nat × Nat))} {p : List Nat} {d : D RT den} {v : Value} (h : TRep E w H p d v) (hd : d.sce = true) : VRep E F w β d v := by
 cases h with
 | sc p d v h1 h2 => exact h2.sce hd
 | _ => simp [D.sce] at hd
theorem dload_rep (hE : Ok E P) {F0 : Was} {w0 : World} {F : Frz} {β : Bet} {s : St RT den} {a : Act} {w : World} (h : Rel E F0 w0 F β s a w) {t : Nat} {p d : D RT den} {v : Value} {c : Bool}
  (hp : VRep E F w β p v) (hl : dload E s.objs t p = some (c, d)) (hc : c = true) : ∃ x, (Instr.loadAt t v).run P w = .ok x w ∧ VRep E F w β d x := by simp [dload] at hl
theorem at'_add (b o j : Nat) : (at' b o).add j = at' b (o + j) := Addr.add_mid b o j
theorem run_fieldAt {w : World} {t f n : Nat} {p : Nat × Nat} (hE : Ok E P) (hf : E.fld t f = some p) (hn : E.sz p.2 = some n) (h0 : n ≠ 0) (b o : Nat) :
  (Instr.fieldAt t (.pointer (some (at' b o))) f).run P w = .ok (.pointer (some (at' b (o + p.1)))) w := by
 obtain ⟨fs, fd, hu, hfd, h1, h2⟩ := hE.fld t f p hf
 have hs := hE.sz p.2 n hn
 rw [← h2] at hs
 cases hq : P.info? fd.type with
 | none => simp [hq] at hs
 | some i =>
  have hi : i.size = n := by simpa [hq] using hs
  simp [Instr.fieldAt, run_underlying hu, hfd, Instr.sureAddr, fieldPlace, sizeOf, typeInfo, hq, hi, h0, at'_add, h1]
theorem run_sizeOf (hE : Ok E P) {w : World} {t n : Nat} (hn : E.sz t = some n) : (sizeOf t).run P w = .ok n w := by
 have hs := hE.sz t n hn
 cases hq : P.info? t with
 | none => simp [hq] at hs
 | some i =>
  have hi : i.size = n := by simpa [hq] using hs
  simp [sizeOf, typeInfo, hq, hi]
theorem run_isAgg (hE : Ok E P) {w : World} {t : Nat} {g : Bool} (hg : E.agg t = some g) : (isAgg t).run P w = .ok g w := by
 obtain ⟨d, hu, hd⟩ := hE.agg t g hg
 unfold isAgg
 rw [Sem.run_bind, run_underlying hu w]
 cases d <;> simp_all
theorem run_field {w : World} {F : Frz} {β : Bet} {t f n : Nat} {p : Nat × Nat} {g : Bool} {cs cs' : List (D RT den)} {d : D RT den} {vs : Array Value} (hE : Ok E P) (hf : E.fld t f = some p) (hn : E.sz p.2 = some n) (hg : E.agg p.2 = some g)
  (hr : VRep E F w β (.agg cs) (.agg vs)) (hs : sub cs p.1 n = some cs') (hd : ofCells g cs' = some d) :
  ∃ x, (Instr.field t (.agg vs) f).run P w = .ok x w ∧ VRep E F w β d x := by
 obtain ⟨fs, fd, hu, hfd, h1, h2⟩ := hE.fld t f p hf
 cases hr with
 | agg _ _ hlen hcell =>
 obtain ⟨hl', hsub⟩ := sub_get hs
 have hbound : p.1 + n ≤ cs.length := by unfold sub at hs; split at hs <;> simp_all
 cases g with
 | true =>
  simp [ofCells] at hd; subst hd
  refine ⟨.agg (vs.extract p.1 (p.1 + n)), ?_, .agg _ _ (by simp; omega) (fun j c hc => ?_)⟩
  ·simp [Instr.field, run_underlying hu, hfd, part, run_isAgg hE (h2 ▸ hg), run_sizeOf hE (h2 ▸ hn), asAgg, h1]
  ·have hj : j < n := by rw [← hl']; exact (List.getElem?_eq_some_iff.1 hc).1
   have := hcell _ _ (hsub j c hc)
   have e : (vs.extract p.1 (p.1 + n)).getD j Go.undef = vs.getD (p.1 + j) Go.undef := by
    have a1 : j < (vs.extract p.1 (p.1 + n)).size := by simp; omega
    have a2 : p.1 + j < vs.size := by omega
    simp only [Array.getD, a1, a2, dif_pos]
    simp
   rw [e]; exact this
 | false =>
  simp only [ofCells, cond_false] at hd
  have := one_some hd; subst this
  have hn1 : n = 1 := by simpa using hl'.symm
  have hq := hsub 0 d rfl
  have hlt : p.1 < vs.size := by omega
  have e1 := getD_some hlt
  have hv := hcell _ _ hq
  generalize vs.getD (p.1 + 0) Go.undef = x at e1 hv
  refine ⟨x, ?_, hv⟩
  simp [Instr.field, run_underlying hu, hfd, part, run_isAgg hE (h2 ▸ hg), asAgg, h1, e1]
end Go.Proofs.Ytcmfekgdlaffkaa.Vm

