
/- The value machine: an operation that turns no object, on the machine. Conditions: none. -/
import Derived.Test.YtcmfekgdlaffkaaVmE
namespace Go.Proofs.Ytcmfekgdlaffkaa.Vm
open Go Go.RowKit
set_option linter.unusedVariables false
set_option linter.unusedSimpArgs false
variable {RT : Type} {den : RT → Type} {E : Env RT den} {P : Program}
structure Good (E : Env RT den) (P : Program) (f : Nat) (xs : List (D RT den)) (r : D RT den) : Prop where
 fn : ∃ fn, P.funcs[f]? = some fn ∧ fn.body.isNone = false ∧ (fn.name == "runtime.NumGoroutine") = false
 calls : ∀ (F : Frz) (w : World) (vs : Array Value), Low E F w → xs.length = vs.size → (∀ i x, xs[i]? = some x → VRep E F w noBet x (vs.getD i Go.undef)) →
  Calls P f vs w (fun e w' => ∃ v F', e = .returned v ∧ Below w.heap.size w w' ∧ (∀ b o, F b o → F' b o) ∧ (∀ b o, F' b o → F b o ∨ w.heap.size ≤ b) ∧ (∀ b o, F' b o → b < w'.heap.size) ∧ VRep E F' w' noBet r v)
inductive Sub : D RT den → D RT den → Prop where
 | refl (d : D RT den) : Sub d d
 | cut (cs r : List (D RT den)) : Sub (.rptr (cs ++ r)) (.rptr cs)
def Subs : List (D RT den) → List (D RT den) → Prop
 | [], [] => True
 | x :: xs, y :: ys => Sub x y ∧ Subs xs ys
 | _, _ => False
theorem Sub.of_eq {d cs : List (D RT den)} (r : List (D RT den)) (h : d = cs ++ r) : Sub (.rptr d) (.rptr cs) := by subst h; exact .cut cs r
theorem Sub.rep {x y : D RT den} (h : Sub x y) {F : Frz} {w : World} {β : Bet} {v : Value} (hx : VRep E F w β x v) : VRep E F w β y v := by
 cases h with
 | refl => exact hx
 | cut cs r =>
  cases hx with
  | rptr cs0 b o u h1 h2 =>
   refine .rptr cs b o u (fun j c hc => h1 j c ?_) (fun j hj => h2 j ?_)
   ·rw [List.getElem?_append_left (List.getElem?_eq_some_iff.1 hc).1]; exact hc
   ·rw [List.length_append]; omega
theorem Subs.get : ∀ {xs ys : List (D RT den)}, Subs xs ys → xs.length = ys.length ∧ ∀ (i : Nat) (y : D RT den), ys[i]? = some y → ∃ x, xs[i]? = some x ∧ Sub x y
 | [], [], _ => ⟨rfl, fun i y h => by simp at h⟩
 | x :: xs, y :: ys, h => by
  obtain ⟨e, g⟩ := Subs.get h.2
  refine ⟨by simp [e], fun i z hz => ?_⟩
  cases i with
  | zero => simp only [List.getElem?_cons_zero, Option.some.injEq] at hz; subst hz; exact ⟨x, rfl, h.1⟩
  | succ i => simp only [List.getElem?_cons_succ] at hz ⊢; exact g i z hz
 | [], _ :: _, h => h.elim
 | _ :: _, [], h => h.elim
theorem Good.sub {f : Nat} {xs ys : List (D RT den)} {r : D RT den} (h : Good E P f ys r) (hs : Subs xs ys) : Good E P f xs r :=
 ⟨h.fn, fun F w vs hF hl hx => h.calls F w vs hF (by rw [← hs.get.1]; exact hl) (fun i y hy => by
  obtain ⟨x, e, hsub⟩ := hs.get.2 i y hy
  exact hsub.rep (hx i x e))⟩
theorem TRep.rep (hE : Ok E P) {F' : Frz} {w : World} {H : List Nat → Option (Nat × (Nat × Nat))} {p : List Nat} {d : D RT den} {v : Value} (h : TRep E w H p d v) (hf : ∀ q b m off, H q = some (b, m) → F' b off) : VRep E F' w noBet d v := by
 induction h with
 | sc p d v h1 h2 => exact h2.sce h1
 | nul p z τ f a h1 h2 h3 h4 => exact .rs z τ 0 f a 0 0 0 (fun _ _ => Go.undef) (fun h => absurd rfl h) h1 h2 (fun h => absurd rfl h) (Nat.le_refl _) (fun _ => rfl) (fun i j c hi => absurd hi (by omega)) (fun i j hi => absurd hi (by omega))
 | row p τ n f cap b cur e h1 h2 h3 h4 h6 h5 ih =>
  refine .rs none τ n f _ cap b 0 (fun i j => cur.getD (i * E.size τ + j) Go.undef) (fun _ => rfl) (by simp) (by simp) (by simp [at']) h2.1 (by simp) ih (fun i j hi hj => ⟨hf _ b _ _ h1, ?_⟩)
  rw [Nat.zero_add]
  refine cell_own h3 ?_
  have : (i + 1) * E.size τ ≤ cap * E.size τ := Nat.mul_le_mul_right _ (by omega)
  rw [Nat.add_mul] at this
  omega
theorem snapFlat_rep (hE : Ok E P) {F0 : Was} {w0 : World} {F F' : Frz} {β : Bet} {s : St RT den} {a : Act} {w : World} (h : Rel E F0 w0 F β s a w) (h1 : ∀ b o, F b o → F' b o) {d d' : D RT den} {v : Value} (hd : VRep E F w β d v)
  (hs : snapFlat E s.objs d = some d') (hf : (∃ o len, d = .os o len) → ∀ b off, β.has b → F' b off) : VRep E F' w noBet d' v := by
 cases hd with
 | os o len cap b m hb hcap hlm =>
  simp only [snapFlat] at hs
  split at hs
  ·rename_i τ n f hob
   ·simp at hs; subst hs
    obtain ⟨hmn, ⟨hm1, hm2⟩, cur, e, hh, hsz, hr⟩ := h.objs o _ (obj_some hob (by simp)) b m hb
    subst hmn
    refine .rs none τ len f _ cap b 0 (fun i j => cur.getD (i * E.size τ + j) Go.undef) (fun _ => rfl) (by simp) (by simp) (by simp [at']) hcap.1 (by simp) (fun i j c hi hc => ?_) (fun i j hi hj => ⟨hf ⟨_, _, rfl⟩ b _ (.inl ⟨o, _, hb⟩), ?_⟩)
    ·exact (hr i j c (by omega) hc).mono h1 (Keeps.refl _ _) (Bet.le_refl _)
    ·rw [Nat.zero_add]
     refine cell_own hh ?_
     have : (i + 1) * E.size τ ≤ m.2 * E.size τ := Nat.mul_le_mul_right _ (by omega)
     rw [Nat.add_mul] at this
     omega
  ·rename_i τ n p f hob
   ·simp at hs; subst hs
    obtain ⟨hmn, ⟨hm1, hm2⟩, hpn, cur, e, hh, hsz, hr⟩ := h.hid.reps o _ τ n p f (obj_some hob (by simp)) b m hb
    subst hmn
    refine .rs none τ len f _ cap b 0 (fun i j => cur.getD (i * E.size τ + j) Go.undef) (fun _ => rfl) (by simp) (by simp) (by simp [at']) hcap.1 (by simp) (fun i j c hi hc => ?_) (fun i j hi hj => ⟨hf ⟨_, _, rfl⟩ b _ (.inl ⟨o, _, hb⟩), ?_⟩)
    ·by_cases hp : i < p
     ·exact ((hr i j c (by omega) hc).1 hp).rep hE (fun q b m off hq => hf ⟨_, _, rfl⟩ b off (.inr ⟨o, q, m, hq⟩))
     ·exact ((hr i j c (by omega) hc).2 (by omega)).mono h1 (Keeps.refl _ _) (Bet.le_refl _)
    ·rw [Nat.zero_add]
     refine cell_own hh ?_
     have : (i + 1) * E.size τ ≤ m.2 * E.size τ := Nat.mul_le_mul_right _ (by omega)
     rw [Nat.add_mul] at this
     omega
  ·simp at hs
 | os0 o a' k3 =>
  simp only [snapFlat] at hs
  split at hs
  ·simp at hs; subst hs
   exact .rs none _ 0 _ a' 0 0 0 (fun _ _ => Go.undef) (fun h => absurd rfl h) (by simp) (by simp) (fun h => absurd rfl h) (Nat.le_refl _) (fun _ => rfl) (fun i j c hi => absurd hi (by omega)) (fun i j hi => absurd hi (by omega))
  ·simp at hs; subst hs
   exact .rs none _ 0 _ a' 0 0 0 (fun _ _ => Go.undef) (fun h => absurd rfl h) (by simp) (by simp) (fun h => absurd rfl h) (Nat.le_refl _) (fun _ => rfl) (fun i j c hi => absurd hi (by omega)) (fun i j hi => absurd hi (by omega))
  ·simp at hs
 | fn f cap vs h2 h3 =>
  cases cap with
  | nil => simp [snapFlat] at hs; subst hs; exact .fn f [] vs h2 (fun j c hc => by simp at hc)
  | cons x l => simp [snapFlat] at hs
 | int k n => simp [snapFlat, norm] at hs; subst hs; exact .int k n
 | bool b => simp [snapFlat, norm] at hs; subst hs; exact .bool b
 | str b => simp [snapFlat, norm] at hs; subst hs; exact .str b
 | nil => simp [snapFlat, norm] at hs; subst hs; exact .nil
 | emp z τ a' k1 k2 k3 => simp [snapFlat] at hs; subst hs; exact norm_rep (VRep.emp (β := noBet) z τ a' k1 k2 k3)
 | rptr cs b o u k1 k2 => simp [snapFlat, norm] at hs; subst hs; exact (VRep.rptr (β := noBet) cs b o u k1 k2).mono h1 (Keeps.refl _ _) (Bet.le_refl _)
 | rs z τ n f a' cap b o u k1 k2 k3 k4 k5 k6 k7 k8 => simp [snapFlat, norm] at hs; subst hs; exact (VRep.rs (β := noBet) z τ n f a' cap b o u k1 k2 k3 k4 k5 k6 k7 k8).mono h1 (Keeps.refl _ _) (Bet.le_refl _)
 | _ => simp [snapFlat] at hs
theorem snapList_get {os : List (Ob RT den)} : ∀ {l l' : List (D RT den)}, snapList E os l = some l' → l'.length = l.length ∧ ∀ (j : Nat) c, l'[j]? = some c → ∃ d, l[j]? = some d ∧ snapFlat E os d = some c
 | [], l', h => by simp [snapList] at h; subst h; simp
 | d :: l, l', h => by
  simp only [snapList, Option.bind_eq_some_iff] at h
  obtain ⟨x, hx, y, hy, h⟩ := h
  have h := Option.some.inj h; subst h
  obtain ⟨h1, h2⟩ := snapList_get hy
  refine ⟨by simp [h1], fun j c hc => ?_⟩
  cases j with
  | zero => simp at hc; subst hc; exact ⟨d, rfl, hx⟩
  | succ j => simpa using h2 j c (by simpa using hc)
theorem snaps_get {os : List (Ob RT den)} : ∀ {l l' : List (D RT den)}, snaps E os l = some l' → l'.length = l.length ∧ ∀ (j : Nat) c, l'[j]? = some c → ∃ d, l[j]? = some d ∧ snap E os d = some c
 | [], l', h => by simp [snaps] at h; subst h; simp
 | d :: l, l', h => by
  simp only [snaps, Option.bind_eq_some_iff] at h
  obtain ⟨x, hx, y, hy, h⟩ := h
  have h := Option.some.inj h; subst h
  obtain ⟨h1, h2⟩ := snaps_get hy
  refine ⟨by simp [h1], fun j c hc => ?_⟩
  cases j with
  | zero => simp at hc; subst hc; exact ⟨d, rfl, hx⟩
  | succ j => simpa using h2 j c (by simpa using hc)
theorem snaps1_get {os : List (Ob RT den)} : ∀ {l l' : List (D RT den)}, snaps1 E os l = some l' → l'.length = l.length ∧ ∀ (j : Nat) c, l'[j]? = some c → ∃ d, l[j]? = some d ∧ snap1 E os d = some c
 | [], l', h => by simp [snaps1] at h; subst h; simp
 | d :: l, l', h => by
  simp only [snaps1, Option.bind_eq_some_iff] at h
  obtain ⟨x, hx, y, hy, h⟩ := h
  have h := Option.some.inj h; subst h
  obtain ⟨h1, h2⟩ := snaps1_get hy
  refine ⟨by simp [h1], fun j c hc => ?_⟩
  cases j with
  | zero => simp at hc; subst hc; exact ⟨d, rfl, hx⟩
  | succ j => simpa using h2 j c (by simpa using hc)
theorem snap1_rep (hE : Ok E P) {F0 : Was} {w0 : World} {F F' : Frz} {β : Bet} {s : St RT den} {a : Act} {w : World} (h : Rel E F0 w0 F β s a w) (h1 : ∀ b o, F b o → F' b o) {d d' : D RT den} {v : Value} (hd : VRep E F w β d v)
  (hs : snap1 E s.objs d = some d') (hf : d.own1 = true → ∀ b off, β.has b → F' b off) : VRep E F' w noBet d' v := by
 have flat : ∀ {x x' : D RT den} {u : Value}, VRep E F w β x u → snapFlat E s.objs x = some x' → (x.own1 = true → ∀ b off, β.has b → F' b off) → VRep E F' w noBet x' u := fun hx hsx hown =>
  snapFlat_rep hE h h1 hx hsx (by rintro ⟨o, len, rfl⟩; exact hown rfl)
 cases hd with
 | agg cs vs k1 k2 =>
  simp only [snap1, Option.bind_eq_some_iff] at hs
  obtain ⟨cs', hcs, hs⟩ := hs
  have hs := Option.some.inj hs; subst hs
  obtain ⟨l1, l2⟩ := snapList_get hcs
  refine .agg cs' vs (by omega) (fun j c hc => ?_)
  obtain ⟨x, hx, hsx⟩ := l2 j c hc
  refine snapFlat_rep hE h h1 (k2 j x hx) hsx ?_
  rintro ⟨o, len, rfl⟩
  refine hf ?_
  simp only [D.own1, List.any_eq_true]
  exact ⟨_, getD_mem hx, rfl⟩
 | ref o off b m hb =>
  simp only [snap1] at hs
  split at hs
  ·rename_i cs hob
   cases hlt0 : Nat.blt off cs.length with
   | false => rw [hlt0] at hs; cases hs
   | true =>
   rw [hlt0] at hs
   simp only [cond_true, Option.bind_eq_some_iff] at hs
   obtain ⟨cs', hcs, hs⟩ := hs
   have hs := Option.some.inj hs; subst hs
   obtain ⟨l1, l2⟩ := snapList_get hcs
   have hfr := hf rfl
   obtain ⟨cur, e, hh, hsz, hr⟩ := h.objs o _ (obj_some hob (by simp)) b m hb
   refine .rptr cs' b off (fun j => cur.getD (off + j) Go.undef) (fun j c hc => ?_) (fun j hj => ⟨hfr b _ (.inl ⟨o, _, hb⟩), ?_⟩)
   ·obtain ⟨x, hx, hsx⟩ := l2 j c hc
    rw [List.getElem?_drop] at hx
    exact snapFlat_rep hE h h1 (hr _ x hx) hsx (fun _ => hfr)
   ·refine cell_own hh ?_
    rw [l1, List.length_drop] at hj
    omega
  ·simp at hs
 | eref o sz j off b m hb hjm =>
  simp only [snap1] at hs
  split at hs
  ·rename_i τ n f hob
   split at hs
   ·rename_i hk
    have hs := Option.some.inj hs; subst hs
    have hfr := hf rfl
    obtain ⟨hmn, ⟨hm1, hm2⟩, cur, e, hh, hsz, hr⟩ := h.objs o _ (obj_some hob (by simp)) b m hb
    subst hmn
    have e2 : (j + 1) * E.size τ ≤ m.2 * E.size τ := Nat.mul_le_mul_right _ (by omega)
    rw [Nat.add_mul] at e2
    refine .rptr _ b (j * sz + off) (fun i => cur.getD (j * sz + off + i) Go.undef) (fun i c hc => ?_) (fun i hi => ⟨hfr b _ (.inl ⟨o, _, hb⟩), ?_⟩)
    ·rw [List.getElem?_drop] at hc
     have hq := hr j (off + i) c hjm hc
     rw [hk, show j * sz + (off + i) = j * sz + off + i by omega] at hq
     exact hq.mono h1 (Keeps.refl _ _) (Bet.le_refl _)
    ·refine cell_own hh ?_
     rw [List.length_drop, hE.size] at hi
     rw [hsz, ← hk]
     omega
   ·simp at hs
  ·simp at hs
 | int k n => exact flat (.int k n) hs hf
 | bool b => exact flat (.bool b) hs hf
 | str b => exact flat (.str b) hs hf
 | undef => exact flat .undef hs hf
 | q v => exact flat (.q _) hs hf
 | nil => exact flat .nil hs hf
 | emp z τ a' k1 k2 k3 => exact flat (.emp z τ a' k1 k2 k3) hs hf
 | rptr cs b o u k1 k2 => exact flat (.rptr cs b o u k1 k2) hs hf
 | rs z τ n f a' cap b o u k1 k2 k3 k4 k5 k6 k7 k8 => exact flat (.rs z τ n f a' cap b o u k1 k2 k3 k4 k5 k6 k7 k8) hs hf
 | os o len cap b m k1 k2 k3 => exact flat (.os o len cap b m k1 k2 k3) hs hf
 | os0 o a' k3 => exact flat (.os0 o a' k3) hs hf
 | osn o i j len cap b m k1 k2 k3 => exact flat (.osn o i j len cap b m k1 k2 k3) hs hf
 | osn0 o i j a' k3 => exact flat (.osn0 o i j a' k3) hs hf
 | osp o sz off len cap b m k1 k2 k3 => exact flat (.osp o sz off len cap b m k1 k2 k3) hs hf
 | osp0 o sz off a' k3 => exact flat (.osp0 o sz off a' k3) hs hf
 | lit τ cs b o u k0 k1 k2 => exact flat (.lit τ cs b o u k0 k1 k2) hs hf
 | fn f cap vs k1 k2 => exact flat (.fn f cap vs k1 k2) hs hf
 | tup ds vs k1 k2 => exact flat (.tup ds vs k1 k2) hs hf
theorem snap_rep (hE : Ok E P) {F0 : Was} {w0 : World} {F F' : Frz} {β : Bet} {s : St RT den} {a : Act} {w : World} (h : Rel E F0 w0 F β s a w) (h1 : ∀ b o, F b o → F' b o) {d d' : D RT den} {v : Value} (hd : VRep E F w β d v)
  (hs : snap E s.objs d = some d') (hf : d.own = true → ∀ b off, β.has b → F' b off) : VRep E F' w noBet d' v := by
 cases hd with
 | fn f cap vs k1 k2 =>
  simp only [snap, Option.bind_eq_some_iff] at hs
  obtain ⟨cap', hcap, hs⟩ := hs
  have hs := Option.some.inj hs; subst hs
  obtain ⟨l1, l2⟩ := snaps1_get hcap
  refine .fn f cap' vs (by omega) (fun j c hc => ?_)
  obtain ⟨x, hx, hsx⟩ := l2 j c hc
  exact snap1_rep hE h h1 (k2 j x hx) hsx (fun ho => hf (by
   simp only [D.own, List.any_eq_true]
   exact ⟨x, List.mem_of_getElem? hx, ho⟩))
 | int k n => exact snap1_rep hE h h1 (.int k n) hs hf
 | bool b => exact snap1_rep hE h h1 (.bool b) hs hf
 | str b => exact snap1_rep hE h h1 (.str b) hs hf
 | undef => exact snap1_rep hE h h1 .undef hs hf
 | q v => exact snap1_rep hE h h1 (.q _) hs hf
 | nil => exact snap1_rep hE h h1 .nil hs hf
 | ref o off b m hb => exact snap1_rep hE h h1 (.ref o off b m hb) hs hf
 | eref o sz j off b m hb hj => exact snap1_rep hE h h1 (.eref o sz j off b m hb hj) hs hf
 | emp z τ a' k1 k2 k3 => exact snap1_rep hE h h1 (.emp z τ a' k1 k2 k3) hs hf
 | rptr cs b o u k1 k2 => exact snap1_rep hE h h1 (.rptr cs b o u k1 k2) hs hf
 | rs z τ n f a' cap b o u k1 k2 k3 k4 k5 k6 k7 k8 => exact snap1_rep hE h h1 (.rs z τ n f a' cap b o u k1 k2 k3 k4 k5 k6 k7 k8) hs hf
 | os o len cap b m k1 k2 k3 => exact snap1_rep hE h h1 (.os o len cap b m k1 k2 k3) hs hf
 | os0 o a' k3 => exact snap1_rep hE h h1 (.os0 o a' k3) hs hf
 | osn o i j len cap b m k1 k2 k3 => exact snap1_rep hE h h1 (.osn o i j len cap b m k1 k2 k3) hs hf
 | osn0 o i j a' k3 => exact snap1_rep hE h h1 (.osn0 o i j a' k3) hs hf
 | osp o sz off len cap b m k1 k2 k3 => exact snap1_rep hE h h1 (.osp o sz off len cap b m k1 k2 k3) hs hf
 | osp0 o sz off a' k3 => exact snap1_rep hE h h1 (.osp0 o sz off a' k3) hs hf
 | lit τ cs b o u k0 k3 k2 => exact snap1_rep hE h h1 (.lit τ cs b o u k0 k3 k2) hs hf
 | agg cs vs k1 k2 => exact snap1_rep hE h h1 (.agg cs vs k1 k2) hs hf
 | tup ds vs k1 k2 => exact snap1_rep hE h h1 (.tup ds vs k1 k2) hs hf
theorem args_rep {F0 : Was} {w0 : World} {F : Frz} {β : Bet} {s : St RT den} {a : Act} {w : World} (h : Rel E F0 w0 F β s a w) : ∀ (ts : List Nat) (xs : List Operand), (E.args s ts xs).length = xs.length ∧
  ∀ i d, (E.args s ts xs)[i]? = some d → VRep E F w β d ((xs.map a.eval).getD i Go.undef)
 | [], [] => by simp [Env.args]
 | t :: ts, [] => by simp [Env.args]
 | [], x :: xs => by
  obtain ⟨h1, h2⟩ := args_rep h [] xs
  refine ⟨by simp [Env.args, h1], fun i d hd => ?_⟩
  cases i with
  | zero => simp [Env.args] at hd; subst hd; simpa using ev_rep h 0 x
  | succ i => simpa using h2 i d (by simpa [Env.args] using hd)
 | t :: ts, x :: xs => by
  obtain ⟨h1, h2⟩ := args_rep h ts xs
  refine ⟨by simp [Env.args, h1], fun i d hd => ?_⟩
  cases i with
  | zero => simp [Env.args] at hd; subst hd; simpa using ev_rep h t x
  | succ i => simpa using h2 i d (by simpa [Env.args] using hd)
theorem run_callFunc {f : Nat} {vs : Array Value} {w : World} (h : ∃ fn, P.funcs[f]? = some fn ∧ fn.body.isNone = false ∧ (fn.name == "runtime.NumGoroutine") = false) :
  (callFunc f vs).run P w = .ok (.enter f vs) w := by
 obtain ⟨fn, h1, h2, h3⟩ := h
 have h3' : fn.name ≠ "runtime.NumGoroutine" := by simpa using h3
 have h2' : fn.body ≠ none := by intro e; simp [e] at h2
 simp [callFunc, h1, h2', h3']
theorem call_wp (hE : Ok E P) {pc : Nat → List (D RT den) → Option (D RT den)} (hpc : ∀ f xs r, pc f xs = some r → Good E P f xs r) {F0 : Was} {w0 : World} {F : Frz} {β : Bet} {s : St RT den} {a : Act} {w : World} (h : Rel E F0 w0 F β s a w)
  {f : Nat} {ds : List (D RT den)} {vs : Array Value} {d : D RT den} (hl : ds.length = vs.size) (hds : ∀ i x, ds[i]? = some x → VRep E F w β x (vs.getD i Go.undef)) (hv : evCall E pc s.objs f ds = some d) :
  (∃ fn, P.funcs[f]? = some fn ∧ fn.body.isNone = false ∧ (fn.name == "runtime.NumGoroutine") = false) ∧
  Calls P f vs w (fun e w' => ∃ v F', e = .returned v ∧ Rel E F0 w0 F' β s a w' ∧ VRep E F' w' β d v) := by
 simp only [evCall, Option.bind_eq_some_iff] at hv
 obtain ⟨xs, hxs, r, hr, hv⟩ := hv
 obtain ⟨l1, l2⟩ := snaps_get hxs
 have hg := hpc f xs r hr
 refine ⟨hg.fn, ?_⟩
 by_cases hown : (ds.any D.own) = true
 ·simp only [hown, Bool.not_true, Bool.false_and, Bool.false_or] at hv
  cases hsc : r.scalar with
  | false => simp [hsc] at hv
  | true =>
   simp only [hsc, cond_true, Option.some.injEq] at hv; subst hv
   refine (hg.calls (fun b off => F b off ∨ β.has b) w vs ?_ (by omega) ?_).mono ?_
   ·refine h.low.or (fun b o => .inl) ?_
    rintro b o (hF | ⟨i, m, hi⟩ | ⟨i, p, m, hi⟩)
    ·exact h.frz b o hF
    ·exact (h.names i b m hi).2.1
    ·exact (h.hid.names i p b m hi).1
   ·intro i x hx
    obtain ⟨y, hy, hs⟩ := l2 i x hx
    exact snap_rep hE h (fun _ _ => .inl) (hds i y hy) hs (fun _ b off hb => .inr hb)
   ·rintro e w' ⟨v, F', rfl, hb, -, -, -, hv⟩
    exact ⟨v, F, rfl, h.grow hb (fun _ _ h => h) (fun _ _ h => .inl h) (fun b o hf => Nat.lt_of_lt_of_le (h.frz b o hf) hb.size), hv.scalar hsc⟩
 ·have hown : ds.any D.own = false := by simpa using hown
  simp only [hown, Bool.not_false, Bool.true_and] at hv
  cases hp : (r.pures || r.scalar) with
  | false => simp [hp] at hv
  | true =>
   simp only [hp, cond_true, Option.some.injEq] at hv; subst hv
   refine (hg.calls F w vs h.low (by omega) ?_).mono ?_
   ·intro i x hx
    obtain ⟨y, hy, hs⟩ := l2 i x hx
    refine snap_rep hE h (fun _ _ h => h) (hds i y hy) hs (fun ho => ?_)
    simp only [List.any_eq_false] at hown
    exact absurd ho (hown y (getD_mem hy))
   ·rintro e w' ⟨v, F', rfl, hb, k1, k2, k3, hv⟩
    refine ⟨v, F', rfl, h.grow hb k1 k2 k3, ?_⟩
    rcases Bool.or_eq_true_iff.1 hp with hp | hp
    ·exact hv.pures hp
    ·exact hv.scalar hp
end Go.Proofs.Ytcmfekgdlaffkaa.Vm

