
/- The value machine: each operation that turns no object does on the machine what the evaluator says. Conditions: none. -/
import Derived.Test.YtcmfekgdlaffkaaVmC
import Derived.Laws.StructEq
import Derived.Laws.Slices
namespace Go.Proofs.Ytcmfekgdlaffkaa.Vm
open Go Go.RowKit
set_option linter.unusedVariables false
set_option linter.unusedSimpArgs false
variable {RT : Type} {den : RT → Type} {E : Env RT den} {P : Program}
theorem VRep.toInt {F : Frz} {w : World} {β : Bet} {k : IntKind} {n : Int} {v : Value} (h : VRep E F w β (.int k n) v) : v = .int k n := by cases h; rfl
theorem VRep.toBool {F : Frz} {w : World} {β : Bet} {b : Bool} {v : Value} (h : VRep E F w β (.bool b) v) : v = .bool b := by cases h; rfl
theorem run_intOp {w : World} (op : BinOp) (t : TypeId) (k : IntKind) (x y : Int) (d : D RT den) (F : Frz) (β : Bet) (hop : op ≠ .shl ∧ op ≠ .shr) (h : intOp op k x y = some d) :
    ∃ v, (Go.binOp op t (.int k x) (.int k y)).run P w = .ok v w ∧ VRep E F w β d v := by
  cases op <;> simp only [intOp, reduceCtorEq, Option.some.injEq] at h hop <;> first
    | (subst h; refine ⟨_, ?_, by constructor⟩; simp [Go.binOp, Op.intArith, Op.intCmp]; done)
    | (subst h; refine ⟨_, ?_, by constructor⟩; simp [Go.binOp, Op.intBits, bitsAnd, bitsOr, bitsXor]; done)
    | (split at h
       · simp at h
       · rename_i hy
         simp at h; subst h; refine ⟨_, ?_, by constructor⟩; simp [Go.binOp, Op.intDiv, hy])
    | (simp at hop; done)
theorem eqGuard_int {w : World} (op : BinOp) (t : TypeId) (x y : Operand) (a b : Value) (h : (∃ k n, a = .int k n) ∨ (∃ c, a = .bool c)) : (eqGuard op t x y a b).run P w = .ok () w := by
  rcases h with ⟨k, n, rfl⟩ | ⟨c, rfl⟩ <;> cases op <;> rfl
theorem eqGuard_str {w : World} (op : BinOp) (t : TypeId) (x y : Operand) (a b : ByteArray) : (eqGuard op t x y (.string a) (.string b)).run P w = .ok () w := by
  cases op <;> rfl
theorem equalIn_nil (w : World) (d : Nat) (t e : TypeId) (p : Option Addr) (n c : Nat) (h : P.underlying t = some (.slice e)) : (Op.equalIn (d + 1) t (.slice p n c) (.slice none 0 0)).run P w = .ok p.isNone w := by
  cases p <;> simp [Op.equalIn, run_underlying h]
theorem equal_nil (w : World) (t e : TypeId) (p : Option Addr) (n c : Nat) (h : P.underlying t = some (.slice e)) : (Op.equal t (.slice p n c) (.slice none 0 0)).run P w = .ok p.isNone w := equalIn_nil w 9999 t e p n c h
theorem run_binOp (hE : Ok E P) {w : World} {F : Frz} {β : Bet} (op : BinOp) (t : TypeId) (x y : Operand) (da db d : D RT den) (a b : Value) (hop : op ≠ .shl ∧ op ≠ .shr)
    (ha : VRep E F w β da a) (hb : VRep E F w β db b) (h : binOp E op t da db = some d) :
    ∃ v, (do eqGuard op t x y a b; Go.binOp op t a b : Sem Value).run P w = .ok v w ∧ VRep E F w β d v := by
  cases ha <;> cases hb <;> simp only [binOp, reduceCtorEq] at h
  · rename_i k n k' n'
    split at h
    · rename_i hk; subst hk
      obtain ⟨v, hv, hr⟩ := run_intOp (P := P) (w := w) op t k n n' d F β hop h
      exact ⟨v, by simp [eqGuard_int op t x y (.int k n) (.int k n') (.inl ⟨_, _, rfl⟩), hv], hr⟩
    · simp at h
  · rename_i c c'
    cases hq : E.eqb t <;> simp only [hq, cond_false, cond_true, reduceCtorEq] at h
    have he := hE.eqb t hq w c c'
    have hg := eqGuard_int (P := P) (w := w) op t x y (.bool c) (.bool c') (.inr ⟨_, rfl⟩)
    cases op <;> simp at h <;> subst h <;> refine ⟨_, ?_, .bool _⟩ <;> simp [hg, Go.binOp, he]
  · rename_i c c'
    cases hq : E.est t <;> simp only [hq, cond_false, cond_true, reduceCtorEq] at h
    have hg := eqGuard_str (P := P) (w := w) op t x y c c'
    by_cases hop : op = .add
    · subst hop
      dsimp only at h
      cases hz : decide (c.size + c'.size ≤ 9223372036854775807) <;> simp only [hz, cond_false, cond_true, reduceCtorEq, Option.some.injEq] at h
      subst h
      have hz := of_decide_eq_true hz
      refine ⟨_, ?_, .str _⟩
      have hm : ¬ (((c.size + c'.size : Nat) : Int) > IntKind.i64.max) := by
        have : IntKind.i64.max = 9223372036854775807 := rfl
        omega
      simp [hg, Go.binOp, Op.stringOp]
      simpa using hm
    · cases op <;> simp at h hop <;> subst h <;> refine ⟨_, ?_, .bool _⟩ <;> simp [hg, Go.binOp, Op.stringOp]
  · rename_i zz τ n f p cap b0 o0 u k1 k2 k3 k4 k5 k6 k7 k8 z' τ' p' j1 j2 j3
    cases z' with
    | false => cases h
    | true =>
    obtain rfl := j1 rfl
    simp only [Option.bind_eq_some_iff] at h
    obtain ⟨e, he, h⟩ := h
    have hu := hE.elem t e he
    have hb : ∀ bb, zz = some bb → p.isNone = bb := by
      intro bb hz
      subst hz
      cases bb with
      | true => rw [k2 rfl]; rfl
      | false => have := k3 rfl; cases p <;> simp_all
    have key := equal_nil (P := P) w t e p n cap hu
    cases op <;> simp only [reduceCtorEq, Option.bind_eq_some_iff, Option.some.injEq] at h <;> (obtain ⟨r, hr, rfl⟩ := h; have hbb := hb r hr; refine ⟨_, ?_, .bool _⟩; simp [eqGuard, Go.binOp, key, hbb])
  · rename_i zz τ p j1 j2 j3 z' τ' p' i1 i2 i3
    cases z' with
    | false => cases h
    | true =>
    obtain rfl := i1 rfl
    simp only [Option.bind_eq_some_iff] at h
    obtain ⟨e, he, h⟩ := h
    have hu := hE.elem t e he
    have hbb : p.isNone = zz := by
      cases zz with
      | true => rw [j1 rfl]; rfl
      | false => have := j2 rfl; cases p <;> simp_all
    have key := equal_nil (P := P) w t e p 0 0 hu
    cases op <;> simp only [reduceCtorEq, Option.some.injEq] at h <;> (subst h; refine ⟨_, ?_, .bool _⟩; simp [eqGuard, Go.binOp, key, hbb])
  · rename_i cs vs h1 h2 cs' vs' h1' h2'
    simp only [Option.bind_eq_some_iff] at h
    obtain ⟨ks, hq, h⟩ := h
    have key : ∀ r, eqCells ks cs cs' = some r → (Op.equal t (.agg vs) (.agg vs')).run P w = .ok r w ∧ (eqGuard op t x y (.agg vs) (.agg vs')).run P w = .ok () w := by
      intro r hr
      obtain ⟨h3, h4⟩ := hE.eqs t ks hq F w β cs cs' r vs vs' hr (.agg _ _ h1 h2) (.agg _ _ h1' h2')
      exact ⟨h3, run_eqGuard_agg w op t x y vs vs' h4⟩
    cases op <;> simp only [reduceCtorEq, Option.bind_eq_some_iff, Option.some.injEq] at h <;> (obtain ⟨r, hr, rfl⟩ := h; obtain ⟨h3, h4⟩ := key r hr; refine ⟨_, ?_, .bool _⟩; simp [h4, Go.binOp, h3])
theorem run_slicing (hE : Ok E P) {w : World} {t e z : Nat} (he : E.elem t = some e) (hz : E.sz e = some z) (a : Option Addr) (len cap : Nat) (lo hi : Option Value) (l h : Int) (hlo : (lo = none ∧ l = 0) ∨ ∃ k, lo = some (.int k l)) (hhi : (hi = none ∧ h = len) ∨ ∃ k, hi = some (.int k h))
    (h0 : 0 ≤ l) (h1 : l ≤ h) (h2 : h.toNat ≤ len) (hc : len ≤ cap) :
    (Instr.sliceAt t (.slice a len cap) lo hi none).run P w = .ok (.slice (if cap = l.toNat then a else a.map (·.add (l.toNat * z))) (h.toNat - l.toNat) (cap - l.toNat)) w := by
  have hu := hE.elem t e he
  have hs := run_sizeOf (P := P) (w := w) hE hz
  have e1 : (h.toNat : Int) = h := Int.toNat_of_nonneg (by omega)
  have e2 : 0 ≤ h := by omega
  have e3 : h ≤ (cap : Int) := by omega
  have e4 : l ≤ (len : Int) := by omega
  rcases hlo with ⟨rfl, rfl⟩ | ⟨kl, rfl⟩ <;> rcases hhi with ⟨rfl, rfl⟩ | ⟨kh, rfl⟩ <;> simp [Instr.sliceAt, Instr.slice, run_underlying hu, Instr.sliceBounds, run_sliceBound, hs, h0, h1, e1, e2, e3, e4]
theorem cut_rep (hE : Ok E P) {w : World} {F : Frz} {β : Bet} {t e z : Nat} (he : E.elem t = some e) (hz : E.sz e = some z) {x lo hi d : D RT den} {n : Nat} {vx : Value} {vlo vhi : Option Value} (hx : VRep E F w β x vx) (hn : lenOf x = some n)
    (hlo : (vlo = none ∧ lo = .int .i64 0) ∨ ∃ v, vlo = some v ∧ VRep E F w β lo v) (hhi : (vhi = none ∧ hi = .int .i64 n) ∨ ∃ v, vhi = some v ∧ VRep E F w β hi v) {q : Bool} (hc : cutOf E q z x lo hi = some (true, d)) :
    ∃ v, (Instr.sliceAt t vx vlo vhi none).run P w = .ok v w ∧ VRep E F w β d v := by
  unfold cutOf at hc
  split at hc
  · rename_i zz τ m f k l k' h
    split at hc
    · rename_i hsz
      simp only [Option.some.injEq, Prod.mk.injEq, Bool.and_eq_true, decide_eq_true_eq] at hc
      obtain ⟨⟨c1, c2, c3⟩, rfl⟩ := hc
      simp only [lenOf, Option.some.injEq] at hn
      subst hn
      have vlo' : (vlo = none ∧ l = 0) ∨ ∃ k, vlo = some (.int k l) := by
        rcases hlo with ⟨h1, h2⟩ | ⟨v, h1, h2⟩
        · cases h2; exact .inl ⟨h1, rfl⟩
        · cases h2; exact .inr ⟨_, h1⟩
      have vhi' : (vhi = none ∧ h = m) ∨ ∃ k, vhi = some (.int k h) := by
        rcases hhi with ⟨h1, h2⟩ | ⟨v, h1, h2⟩
        · cases h2; exact .inl ⟨h1, rfl⟩
        · cases h2; exact .inr ⟨_, h1⟩
      cases hx with
      | rs _ _ _ _ a cap b o u h1 h2 h3 h4 h5 h6 h7 h8 =>
        have key : h.toNat - l.toNat ≠ 0 → (if cap = l.toNat then a else a.map (·.add (l.toNat * z))) = some (at' b (o + l.toNat * z)) := by
          intro hne
          rw [if_neg (by omega), h1 (by omega)]
          simp [at'_add]
        have nn : (if cap = l.toNat then a else a.map (·.add (l.toNat * z))) = none ↔ a = none := by split <;> simp
        refine ⟨_, run_slicing hE he hz a m cap vlo vhi l h vlo' vhi' c1 c2 c3 h5, .rs zz τ _ _ _ (cap - l.toNat) b (o + l.toNat * z) (fun i j => u (l.toNat + i) j) key (fun hz => nn.2 (h2 hz)) (fun hz hno => h3 hz (nn.1 hno)) (fun hne p hp => by
          rw [key hne] at hp; cases hp; rfl) (by omega) (fun hno => by have := h6 (nn.1 hno); omega) (fun i j c hi hc => h7 _ j c (by omega) hc) (fun i j hi hj => ?_)⟩
        have := h8 (l.toNat + i) j (by omega) hj
        rw [hsz]
        rw [show o + l.toNat * E.size τ + i * E.size τ + j = o + (l.toNat + i) * E.size τ + j by rw [Nat.add_mul]; omega]
        exact this
    · simp at hc
  · rename_i zz τ k l k' h
    simp only [Option.some.injEq, Prod.mk.injEq, Bool.and_eq_true, decide_eq_true_eq] at hc
    obtain ⟨⟨c1, c2, c3⟩, rfl⟩ := hc
    simp only [lenOf, Option.some.injEq] at hn
    subst hn
    have e0 : l = 0 := by omega
    have e1 : h = 0 := by omega
    subst e0; subst e1
    have vlo' : (vlo = none ∧ (0 : Int) = 0) ∨ ∃ k, vlo = some (.int k 0) := by
      rcases hlo with ⟨h1, h2⟩ | ⟨v, h1, h2⟩
      · exact .inl ⟨h1, rfl⟩
      · cases h2; exact .inr ⟨_, h1⟩
    have vhi' : (vhi = none ∧ (0 : Int) = (0 : Nat)) ∨ ∃ k, vhi = some (.int k 0) := by
      rcases hhi with ⟨h1, h2⟩ | ⟨v, h1, h2⟩
      · exact .inl ⟨h1, rfl⟩
      · cases h2; exact .inr ⟨_, h1⟩
    cases hx with
    | emp _ _ a h1 h2 h3 =>
      refine ⟨_, run_slicing hE he hz a 0 0 vlo vhi 0 0 vlo' vhi' (by omega) (by omega) (by simp) (by omega), ?_⟩
      simpa using VRep.emp zz τ a h1 h2 h3
  · rename_i o m k l k' h
    cases hq : q with
    | true =>
      rw [hq] at hc
      simp only [cond_true, Option.some.injEq, Prod.mk.injEq, Bool.and_eq_true, decide_eq_true_eq] at hc
      obtain ⟨⟨c1, c2, c3⟩, rfl⟩ := hc
      simp only [lenOf, Option.some.injEq] at hn
      subst hn
      have vlo' : (vlo = none ∧ l = 0) ∨ ∃ k, vlo = some (.int k l) := by
        rcases hlo with ⟨h1, h2⟩ | ⟨v, h1, h2⟩
        · cases h2; exact .inl ⟨h1, rfl⟩
        · cases h2; exact .inr ⟨_, h1⟩
      have vhi' : (vhi = none ∧ h = m) ∨ ∃ k, vhi = some (.int k h) := by
        rcases hhi with ⟨h1, h2⟩ | ⟨v, h1, h2⟩
        · cases h2; exact .inl ⟨h1, rfl⟩
        · cases h2; exact .inr ⟨_, h1⟩
      cases hx with
      | os _ _ cap b mm hb hcap hlm =>
        refine ⟨_, run_slicing hE he hz _ m cap vlo vhi l h vlo' vhi' c1 c2 c3 hcap.1, ?_⟩
        by_cases hcl : cap = l.toNat
        · rw [if_pos hcl, show h.toNat - l.toNat = 0 by omega, show cap - l.toNat = 0 by omega]
          exact .osp0 o z l.toNat _ (fun p hp => by cases hp; rfl)
        · rw [if_neg hcl]
          simp only [Option.map_some, at'_add, Nat.zero_add]
          exact .osp o z l.toNat _ _ b mm hb (by omega) (by omega)
      | os0 _ a h3 =>
        refine ⟨_, run_slicing hE he hz a 0 0 vlo vhi l h vlo' vhi' c1 c2 c3 (Nat.le_refl _), ?_⟩
        rw [if_pos (by omega), show h.toNat - l.toNat = 0 by omega, show 0 - l.toNat = 0 by omega]
        exact .osp0 o z l.toNat a h3
    | false =>
    rw [hq] at hc
    simp only [cond_false] at hc
    split at hc
    · rename_i hl0
      subst hl0
      simp only [Option.some.injEq, Prod.mk.injEq, Bool.and_eq_true, decide_eq_true_eq] at hc
      obtain ⟨⟨c1, c2⟩, rfl⟩ := hc
      simp only [lenOf, Option.some.injEq] at hn
      subst hn
      have vlo' : (vlo = none ∧ (0 : Int) = 0) ∨ ∃ k, vlo = some (.int k 0) := by
        rcases hlo with ⟨h1, h2⟩ | ⟨v, h1, h2⟩
        · exact .inl ⟨h1, rfl⟩
        · cases h2; exact .inr ⟨_, h1⟩
      have vhi' : (vhi = none ∧ h = m) ∨ ∃ k, vhi = some (.int k h) := by
        rcases hhi with ⟨h1, h2⟩ | ⟨v, h1, h2⟩
        · cases h2; exact .inl ⟨h1, rfl⟩
        · cases h2; exact .inr ⟨_, h1⟩
      cases hx with
      | os _ _ cap b mm hb hcap hlm =>
        refine ⟨_, run_slicing hE he hz _ m cap vlo vhi 0 h vlo' vhi' (by omega) (by omega) c2 hcap.1, ?_⟩
        have e1 : (if cap = Int.toNat 0 then some (at' b 0) else (some (at' b 0)).map (·.add (Int.toNat 0 * z))) = some (at' b 0) := by
          split
          · rfl
          · simp [at'_add]
        rw [e1]
        simpa using VRep.os (E := E) (F := F) (w := w) o h.toNat cap b mm hb ⟨by omega, hcap.2⟩ (by omega)
      | os0 _ a h3 =>
        have e0 : h = 0 := by omega
        subst e0
        refine ⟨_, run_slicing hE he hz a 0 0 vlo vhi 0 0 vlo' (by simpa using vhi') (by omega) (by omega) (by simp) (by omega), ?_⟩
        simpa using VRep.os0 (E := E) (F := F) (w := w) (β := β) o a h3
    · simp at hc
  · simp at hc
theorem least_run {g : Value → Value → Sem Value} {f : Int → Int → Int} {w : World} {F : Frz} {β : Bet} (hg : ∀ k a k' b, (g (.int k a) (.int k' b)).run P w = .ok (.int k (f a b)) w) : ∀ (l : List (D RT den)) (vs : List Value) (k : IntKind) (a : Int) (d : D RT den),
    least f k a l = some d → l.length = vs.length → (∀ (i : Nat) x, l[i]? = some x → VRep E F w β x (vs.getD i Go.undef)) → ∃ v, (vs.foldlM g (.int k a)).run P w = .ok v w ∧ VRep E F w β d v
  | [], vs, k, a, d, h, hl, _ => by
    have : vs = [] := List.eq_nil_of_length_eq_zero hl.symm
    subst this
    simp only [least, Option.some.injEq] at h
    subst h
    exact ⟨_, rfl, .int _ _⟩
  | x :: l, vs, k, a, d, h, hl, hx => by
    cases vs with
    | nil => simp at hl
    | cons v vs =>
      cases x <;> simp only [least, reduceCtorEq] at h
      split at h
      · rename_i k' b hk
        have h0 := hx 0 _ rfl
        have hv : v = .int k' b := by simpa using h0.toInt
        subst hv
        obtain ⟨r, h1, h2⟩ := least_run hg l vs k (f a b) d h (by simpa using hl) (fun i y hy => by simpa using hx (i + 1) y (by simpa using hy))
        exact ⟨r, by simp only [List.foldlM_cons, Sem.run_bind, hg, Result.andThen_ok]; exact h1, h2⟩
      · simp at h
theorem run_indexAt (hE : Ok E P) {w : World} {t e z : Nat} (he : E.elem t = some e) (hz : E.sz e = some z) (b o len cap : Nat) (k : IntKind) (i : Int) (hi : 0 ≤ i) (hl : i.toNat < len) :
    (Instr.indexAt t (.slice (some (at' b o)) len cap) (.int k i)).run P w = .ok (.pointer (some (at' b (o + i.toNat * z)))) w := by
  have hlt : i < (len : Int) := by omega
  simp [Instr.indexAt, run_underlying (hE.elem t e he), asIntOf, hi, hlt, run_sizeOf hE hz, at'_add]
theorem fill_step (place : Nat → Option (Nat × Nat)) (cells : Array Value) (i : Nat) (v : Value) (rest : List (Nat × Value)) (off size : Nat) (hp : place i = some (off, size)) (hs : v.cells.size = size) (ho : off + v.cells.size ≤ cells.size) :
    Instr.fill place cells ((i, v) :: rest) = Instr.fill place (v.cells.zipIdx.foldl (fun cs (c, j) => cs.setIfInBounds (off + j) c) cells) rest := by
  have h1 : ¬ (v.cells.size ≠ size ∨ cells.size < off + v.cells.size) := by omega
  simp [Instr.fill, hp, h1]
theorem foldl_set (l : List (Value × Nat)) : ∀ (off : Nat) (cells : Array Value), (l.foldl (fun (cs : Array Value) (x : Value × Nat) => cs.setIfInBounds (off + x.2) x.1) cells).size = cells.size := by
  induction l with
  | nil => intro off cells; rfl
  | cons x l ih => intro off cells; rw [List.foldl_cons, ih]; simp
theorem foldl_put (off : Nat) : ∀ (vs : List Value) (k : Nat) (cells : Array Value) (j : Nat), off + k + vs.length ≤ cells.size →
    ((vs.zipIdx k).foldl (fun (cs : Array Value) (x : Value × Nat) => cs.setIfInBounds (off + x.2) x.1) cells).getD j Go.undef =
      if off + k ≤ j ∧ j < off + k + vs.length then vs.getD (j - (off + k)) Go.undef else cells.getD j Go.undef := by
  intro vs
  induction vs with
  | nil => intro k cells j h; rw [if_neg (by simp only [List.length_nil]; omega)]; rfl
  | cons v vs ih =>
    intro k cells j h
    rw [List.zipIdx_cons, List.foldl_cons, ih (k + 1) _ j (by simp at h ⊢; omega)]
    simp only [List.length_cons] at h ⊢
    by_cases h1 : off + (k + 1) ≤ j ∧ j < off + (k + 1) + vs.length
    · rw [if_pos h1, if_pos (by omega)]
      have : j - (off + k) = (j - (off + (k + 1))) + 1 := by omega
      rw [this]; simp
    · rw [if_neg h1]
      by_cases h2 : j = off + k
      · subst h2
        rw [if_pos (by omega)]
        have : off + k < cells.size := by omega
        simp [Array.getD, this]
      · rw [if_neg (by omega)]
        simp only [Array.getD, Array.size_setIfInBounds]
        by_cases h3 : j < cells.size
        · simp only [h3, dif_pos]
          simp [Array.getInternal, Ne.symm h2]
        · simp only [h3, dif_neg, not_false_eq_true]
theorem put_get {cs new cs' : List (D RT den)} {off : Nat} (h : put cs off new = some cs') : off + new.length ≤ cs.length ∧ cs'.length = cs.length ∧
    ∀ j c, cs'[j]? = some c → if off ≤ j ∧ j < off + new.length then new[j - off]? = some c else cs[j]? = some c := by
  unfold put at h
  split at h
  · rename_i hl
    have h := Option.some.inj h
    subst h
    refine ⟨hl, by simp; omega, fun j c hj => ?_⟩
    have h1 : (cs.take off).length = off := by simp; omega
    have h2 : (cs.take off ++ new).length = off + new.length := by simp; omega
    split
    · rename_i hk
      rw [List.append_assoc, List.getElem?_append_right (by omega), h1, List.getElem?_append_left (by omega)] at hj
      exact hj
    · rename_i hk
      by_cases h3 : j < off
      · rw [List.append_assoc, List.getElem?_append_left (by omega), List.getElem?_take, if_pos h3] at hj
        exact hj
      · rw [List.getElem?_append_right (by omega), h2, List.getElem?_drop] at hj
        rw [show off + new.length + (j - (off + new.length)) = j by omega] at hj
        exact hj
  · simp at h
theorem fields_rep (hE : Ok E P) {F0 : Was} {w0 : World} {F : Frz} {β : Bet} {s : St RT den} {a : Act} {w : World} (h : Rel E F0 w0 F β s a w) (t : Nat) (fs : Array Field) (hu : P.underlying t = some (.struct fs)) (pl : Array (Nat × Nat))
    (hpl : ∀ (i : Nat) (f : Field), fs[i]? = some f → ∀ n, (P.info? f.type).map (·.size) = some n → pl[i]? = some (f.offset, n)) :
    ∀ (ps : List (Nat × Operand)) (cs cs' : List (D RT den)) (cells : Array Value), fields E s t ps cs = some cs' → cells.size = cs.length → (∀ j c, cs[j]? = some c → VRep E F w β c (cells.getD j Go.undef)) →
      ∃ vs, Instr.fill (pl[·]?) cells (ps.map fun x => (x.1, a.eval x.2)) = some vs ∧ vs.size = cs'.length ∧ ∀ j c, cs'[j]? = some c → VRep E F w β c (vs.getD j Go.undef) := by
  intro ps
  induction ps with
  | nil =>
    intro cs cs' cells h1 h3 h4
    simp [fields] at h1; subst h1
    exact ⟨cells, rfl, h3, h4⟩
  | cons p ps ih =>
    intro cs cs' cells h1 h3 h4
    obtain ⟨i, x⟩ := p
    simp only [fields, Option.bind_eq_some_iff] at h1
    obtain ⟨q, hq, n, hn, h1⟩ := h1
    split at h1
    · rename_i hlen
      simp only [Option.bind_eq_some_iff] at h1
      obtain ⟨cs1, hput, h1⟩ := h1
      obtain ⟨fs', f, hu', hf, ho, hty⟩ := hE.fld t i q hq
      rw [hu] at hu'; cases hu'
      have hplace : pl[i]? = some (f.offset, n) := hpl i f hf n (hty ▸ hE.sz _ _ hn)
      obtain ⟨c1, c2, c3⟩ := (ev_rep h q.2 x).cells hlen.2
      obtain ⟨p1, p2, p3⟩ := put_get hput
      have hsz : (a.eval x).cells.size = n := by rw [← c1]; exact hlen.1
      have hfit : f.offset + (a.eval x).cells.size ≤ cells.size := by rw [ho, ← c1, h3]; exact p1
      have hstep := fill_step (pl[·]?) cells i (a.eval x) (ps.map fun x => (x.1, a.eval x.2)) f.offset n hplace hsz hfit
      have hsize2 : ((a.eval x).cells.zipIdx.foldl (fun (cs : Array Value) (x : Value × Nat) => cs.setIfInBounds (f.offset + x.2) x.1) cells).size = cells.size := by
        rw [← Array.foldl_toList]; exact foldl_set _ _ _
      obtain ⟨vs, hv1, hv2, hv3⟩ := ih cs1 cs' _ h1 (by rw [hsize2, p2]; exact h3) (fun j c hj => by
        have hg := p3 j c hj
        have hj2 : j < cs.length := by rw [← p2]; exact (List.getElem?_eq_some_iff.1 hj).1
        have e := foldl_put f.offset (a.eval x).cells.toList 0 cells j (by simpa using hfit)
        rw [← Array.foldl_toList, Array.toList_zipIdx, e]
        simp only [Nat.add_zero, Array.length_toList]
        rw [ho] at hfit ⊢
        rw [← c1] at hfit ⊢
        split at hg
        · rename_i hk
          rw [if_pos hk]
          have := c2 _ _ hg
          have hk2 : j - q.1 < (a.eval x).cells.size := by omega
          simpa [Array.getD, List.getD_eq_getElem?_getD, hk2] using this
        · rename_i hk
          rw [if_neg hk]
          exact h4 j c hg)
      exact ⟨vs, by rw [List.map_cons, hstep]; exact hv1, hv2, hv3⟩
    · simp at h1
end Go.Proofs.Ytcmfekgdlaffkaa.Vm
