
/- The value machine: the tables of a program's types, checked. Conditions: none. -/
import Derived.Test.YtcmfekgdlaffkaaVmM
namespace Go.Proofs.Ytcmfekgdlaffkaa.Vm
open Go Go.RowKit
set_option linter.unusedVariables false
set_option linter.unusedSimpArgs false
variable {RT : Type} {den : RT → Type} {P : Program}
structure TI where
 sz : Nat
 bytes : Nat
 agg : Bool
 elem : Option Nat
 flds : List (Nat × Nat)
 str : Bool
 eq : Option (List Bool)
 eqb : Bool
 ik : Option IntKind
 est : Bool
def eqWalk (P : Program) (sh : Nat → Option (List Bool)) : List Field → Nat → Option (List Bool)
 | [], _ => some []
 | f :: fs, off => bif f.name != "_" && f.offset == off then (sh f.type).bind fun ks => (P.info? f.type).bind fun i => bif i.size == ks.length then (eqWalk P sh fs (off + ks.length)).bind fun l => some (ks ++ l) else none else none
def eqShape (P : Program) : Nat → Nat → Option (List Bool)
 | 0, _ => none
 | k + 1, t =>
  match P.underlying t with
  | some .bool => some [false]
  | some (.int _) => some [true]
  | some (.struct fs) => bif P.stoodInHeld t then none else eqWalk P (eqShape P k) fs.toList 0
  | _ => none
def tiOk (P : Program) (x : Nat × TI) : Bool :=
 match P.info? x.1, P.underlying x.1 with
 | some i, some d => i.size == x.2.sz && i.bytes == x.2.bytes && (d.isRow == x.2.agg) &&
  (match x.2.elem with | some e => (match d with | .slice e' => e == e' | _ => false) | none => true) &&
  (match d with | .struct fs => x.2.flds == fs.toList.map (fun f => (f.offset, f.type)) | _ => x.2.flds.isEmpty) &&
  (!x.2.str || (match d with | .struct fs => (fs.toList.mapM fun f => (P.info? f.type).map fun i => (f.offset, i.size)).isSome | _ => false)) &&
  (match x.2.eq with | some ks => eqShape P 20 x.1 == some ks && !P.eqGuardType P.depth x.1 && (match d with | .struct _ => true | _ => false) | none => true) && (!x.2.eqb || (match d with | .bool => true | _ => false)) &&
  (match x.2.ik with | some k => (match d with | .int k' => decide (k = k') | _ => false) | none => true) && (!x.2.est || (match d with | .string => true | _ => false))
 | _, _ => false
def sameZ : Value → D RT den → Bool
 | .int k n, .int k' n' => decide (k = k') && decide (n = n')
 | .bool b, .bool c => b == c
 | .string s, .str s' => decide (s.data.toList = s'.data.toList)
 | .slice none 0 0, .emp z _ => z
 | .pointer none, .nil => true
 | _, _ => false
def sameZs : List Value → List (D RT den) → Bool
 | [], [] => true
 | v :: l, d :: m => sameZ v d && sameZs l m
 | _, _ => false
def zOk (P : Program) (x : Nat × List (D RT den)) : Bool :=
 match P.info? x.1 with
 | some i => (match i.zero with | some z => sameZs z.cells.toList x.2 && i.size == x.2.length | none => false)
 | none => false
def envOf (P : Program) (tbl : List (Nat × TI)) (R : Rows RT den) (zs : List (Nat × List (D RT den))) (fn : Nat → Option Func) (par : Nat → List Nat) (tab : Nat → Option (Array Value) := fun _ => none) : Env RT den where
 scl := R.scl
 byt := R.byt
 lit1 := R.lit1
 nilE := R.nilE
 rt := R.rt
 size := R.size
 cells := R.cells
 dec := R.dec
 deq := R.deq
 dflt := R.dflt
 zero := fun t => zs.lookup t
 fn := fn
 agg := fun t => (tbl.lookup t).map TI.agg
 sz := fun t => (tbl.lookup t).map TI.sz
 bytes := fun t => (tbl.lookup t).map TI.bytes
 elem := fun t => (tbl.lookup t).bind TI.elem
 fld := fun t i => (tbl.lookup t).bind fun x => x.flds[i]?
 str := fun t => match tbl.lookup t with | some x => x.str | none => false
 eqok := fun t => (tbl.lookup t).bind TI.eq
 eqb := fun t => match tbl.lookup t with | some x => x.eqb | none => false
 ik := fun t => (tbl.lookup t).bind TI.ik
 est := fun t => match tbl.lookup t with | some x => x.est | none => false
 par := par
 tab := tab
theorem lookup_mem' {α : Type} {t : Nat} {x : α} : ∀ {l : List (Nat × α)}, l.lookup t = some x → (t, x) ∈ l
 | [], h => by simp at h
 | (k, y) :: l, h => by
  simp only [List.lookup] at h
  split at h
  ·rename_i hk
   have : t = k := by simpa using hk
   cases h; subst this; simp
  ·simp [lookup_mem' h]
theorem sameZ_rep {E : Env RT den} {F : Frz} {w : World} {β : Bet} {v : Value} {d : D RT den} (h : sameZ v d = true) : VRep E F w β d v := by
 unfold sameZ at h
 split at h
 ·simp only [Bool.and_eq_true, decide_eq_true_eq] at h
  rw [← h.1, ← h.2]; exact .int _ _
 ·rename_i b c
  have : b = c := by simpa using h
  subst this; exact .bool _
 ·rename_i x y
  have h := of_decide_eq_true h
  have : x = y := by cases x; cases y; simpa using h
  subst this; exact .str _
 ·subst h; exact .emp true _ none (by simp) (by simp) (by simp)
 ·exact .nil
 ·simp at h
theorem sameZ_pure {v : Value} {d : D RT den} (h : sameZ v d = true) : d.pure = true := by
 unfold sameZ at h
 split at h <;> first | rfl | (simp at h; done)
theorem sameZs_get {l : List Value} {m : List (D RT den)} (h : sameZs l m = true) : l.length = m.length ∧ ∀ (j : Nat) d, m[j]? = some d → ∃ v, l[j]? = some v ∧ sameZ v d = true := by
 induction l generalizing m with
 | nil => cases m <;> simp_all [sameZs]
 | cons v l ih =>
  cases m with
  | nil => simp [sameZs] at h
  | cons d m =>
   simp only [sameZs, Bool.and_eq_true] at h
   obtain ⟨h1, h2⟩ := ih h.2
   refine ⟨by simp [h1], fun j d' hd => ?_⟩
   cases j with
   | zero => simp at hd; subst hd; exact ⟨v, rfl, h.1⟩
   | succ j => simpa using h2 j d' (by simpa using hd)
theorem eqCells_append {ks1 ks2 : List Bool} {r : Bool} : ∀ {a b : List (D RT den)}, eqCells (ks1 ++ ks2) a b = some r → ∃ r1 r2, eqCells ks1 (a.take ks1.length) (b.take ks1.length) = some r1 ∧ eqCells ks2 (a.drop ks1.length) (b.drop ks1.length) = some r2 ∧ r = (r1 && r2) := by
 induction ks1 generalizing r with
 | nil => intro a b h; exact ⟨true, r, by simp [eqCells], by simpa using h, by simp⟩
 | cons k ks1 ih =>
  intro a b h
  cases a with
  | nil => simp [eqCells] at h
  | cons x a =>
   cases b with
   | nil => simp [eqCells] at h
   | cons y b =>
    simp only [List.cons_append, eqCells, Option.bind_eq_some_iff] at h
    obtain ⟨r0, h0, r', h', hr⟩ := h
    obtain ⟨r1, r2, h1, h2, h3⟩ := ih h'
    have hr := Option.some.inj hr; subst hr
    exact ⟨r0 && r1, r2, by simp [eqCells, h0, h1], by simpa using h2, by rw [h3, Bool.and_assoc]⟩
theorem eqCells_len {ks : List Bool} {r : Bool} : ∀ {a b : List (D RT den)}, eqCells ks a b = some r → a.length = ks.length ∧ b.length = ks.length := by
 induction ks generalizing r with
 | nil => intro a b h; cases a <;> cases b <;> simp_all [eqCells]
 | cons k ks ih =>
  intro a b h
  cases a with
  | nil => simp [eqCells] at h
  | cons x a =>
   cases b with
   | nil => simp [eqCells] at h
   | cons y b =>
    simp only [eqCells, Option.bind_eq_some_iff] at h
    obtain ⟨r0, h0, r', h', hr⟩ := h
    simp [ih h']
def Cells (E : Env RT den) (F : Frz) (w : World) (β : Bet) (a : List (D RT den)) (vs : Array Value) (off : Nat) : Prop := off + a.length ≤ vs.size ∧ ∀ j c, a[j]? = some c → VRep E F w β c (vs.getD (off + j) Go.undef)
theorem eqSc_run {E : Env RT den} {F : Frz} {w : World} {β : Bet} {k : Bool} {x y : D RT den} {r : Bool} {vx vy : Value} (h : eqSc k x y = some r) (hx : VRep E F w β x vx) (hy : VRep E F w β y vy) :
  (k = true ∧ ∃ k a b, vx = .int k a ∧ vy = .int k b ∧ r = (a == b)) ∨ (k = false ∧ ∃ a b, vx = .bool a ∧ vy = .bool b ∧ r = (a == b)) := by
 cases hx <;> cases hy <;> simp only [eqSc, reduceCtorEq] at h
 ·cases k with
  | false => simp at h
  | true =>
   simp only [cond_true] at h
   split at h
   ·rename_i hk; subst hk
    have h := Option.some.inj h
    exact .inl ⟨rfl, _, _, _, rfl, rfl, h.symm⟩
   ·simp at h
 ·cases k with
  | true => simp at h
  | false =>
   have h := Option.some.inj h
   exact .inr ⟨rfl, _, _, rfl, rfl, h.symm⟩
theorem extract_getD (vs : Array Value) (off n j : Nat) (h : off + n ≤ vs.size) (hj : j < n) : (vs.extract off (off + n)).getD j Go.undef = vs.getD (off + j) Go.undef := by
 have a1 : j < (vs.extract off (off + n)).size := by simp; omega
 have a2 : off + j < vs.size := by omega
 simp only [Array.getD, a1, a2, dif_pos]
 simp
theorem Cells.take {E : Env RT den} {F : Frz} {w : World} {β : Bet} {a : List (D RT den)} {vs : Array Value} {off : Nat} (h : Cells E F w β a vs off) (n : Nat) : Cells E F w β (a.take n) vs off :=
 ⟨by have := h.1; simp; omega, fun j c hc => by
  rw [List.getElem?_take] at hc
  split at hc
  ·exact h.2 j c hc
  ·simp at hc⟩
theorem Cells.drop {E : Env RT den} {F : Frz} {w : World} {β : Bet} {a : List (D RT den)} {vs : Array Value} {off : Nat} (h : Cells E F w β a vs off) (n : Nat) (hn : n ≤ a.length) : Cells E F w β (a.drop n) vs (off + n) :=
 ⟨by have := h.1; simp; omega, fun j c hc => by
  rw [List.getElem?_drop] at hc
  rw [Nat.add_assoc]
  exact h.2 _ c hc⟩
theorem run_isAgg' {w : World} {t : Nat} {d : TypeDesc} {g : Bool} (hu : P.underlying t = some d) (hd : d.isRow = g) : (isAgg t).run P w = .ok g w := by
 unfold isAgg
 rw [Sem.run_bind, run_underlying hu w]
 cases d <;> simp_all
theorem eq_run {E : Env RT den} {F : Frz} {β : Bet} (w : World) : ∀ (k : Nat),
  (∀ (t : Nat) (ks : List Bool) (d : Nat) (xs ys : Array Value) (a b : List (D RT den)) (r : Bool) (off : Nat) (i : TypeInfo), eqShape P k t = some ks → k ≤ d → Cells E F w β a xs off → Cells E F w β b ys off → eqCells ks a b = some r →
   P.info? t = some i → i.size = ks.length → ∃ x y, (part t xs off).run P w = .ok x w ∧ (part t ys off).run P w = .ok y w ∧ (Op.equalIn d t x y).run P w = .ok r w) ∧
  (∀ (t : Nat) (ks : List Bool) (d : Nat) (xs ys : Array Value) (a b : List (D RT den)) (r : Bool), eqShape P k t = some ks → k ≤ d → (∃ fs, P.underlying t = some (.struct fs)) → Cells E F w β a xs 0 → Cells E F w β b ys 0 → eqCells ks a b = some r →
   (Op.equalIn d t (.agg xs) (.agg ys)).run P w = .ok r w) := by
 intro k
 induction k with
 | zero => exact ⟨fun t ks d xs ys a b r off i h => by simp [eqShape] at h, fun t ks d xs ys a b r h => by simp [eqShape] at h⟩
 | succ k ih =>
  have walk : ∀ (fs : List Field) (off : Nat) (ks : List Bool) (d : Nat) (xs ys : Array Value) (a b : List (D RT den)) (r : Bool), eqWalk P (eqShape P k) fs off = some ks → k ≤ d → Cells E F w β a xs off → Cells E F w β b ys off → eqCells ks a b = some r →
    (Op.eqFields d xs ys fs).run P w = .ok r w := by
   intro fs
   induction fs with
   | nil =>
    intro off ks d xs ys a b r h hd hx hy hr
    simp [eqWalk] at h; subst h
    cases a <;> cases b <;> simp [eqCells] at hr
    subst hr; rfl
   | cons f fs ihf =>
    intro off ks d xs ys a b r h hd hx hy hr
    simp only [eqWalk] at h
    cases hc : (f.name != "_" && f.offset == off) with
    | false => rw [hc] at h; simp at h
    | true =>
     rw [hc] at h
     simp only [cond_true, Option.bind_eq_some_iff] at h
     obtain ⟨ks1, h1, i, hi, h⟩ := h
     cases hsz : (i.size == ks1.length) with
     | false => rw [hsz] at h; simp at h
     | true =>
      rw [hsz] at h
      simp only [cond_true, Option.bind_eq_some_iff] at h
      obtain ⟨l, hl, h⟩ := h
      have h := Option.some.inj h; subst h
      simp only [Bool.and_eq_true, bne_iff_ne, ne_eq, beq_iff_eq] at hc hsz
      obtain ⟨r1, r2, e1, e2, rfl⟩ := eqCells_append hr
      obtain ⟨la, lb⟩ := eqCells_len hr
      simp only [List.length_append] at la lb
      obtain ⟨x, y, p1, p2, p3⟩ := ih.1 f.type ks1 d xs ys _ _ r1 off i h1 hd (hx.take _) (hy.take _) e1 hi hsz
      have rest := ihf (off + ks1.length) l d xs ys _ _ r2 hl hd (hx.drop _ (by omega)) (hy.drop _ (by omega)) e2
      simp only [Op.eqFields]
      rw [if_pos (by simpa using hc.1)]
      rw [hc.2]
      simp only [Sem.run_bind, p1, p2, p3, Result.andThen_ok]
      cases r1 with
      | false => simp
      | true => simpa using rest
  have str : ∀ (t : Nat) (ks : List Bool) (d : Nat) (xs ys : Array Value) (a b : List (D RT den)) (r : Bool), eqShape P (k + 1) t = some ks → k + 1 ≤ d → (∃ fs, P.underlying t = some (.struct fs)) → Cells E F w β a xs 0 → Cells E F w β b ys 0 → eqCells ks a b = some r →
    (Op.equalIn d t (.agg xs) (.agg ys)).run P w = .ok r w := by
   intro t ks d xs ys a b r h hd hfs hx hy hr
   obtain ⟨fs, hu⟩ := hfs
   cases d with
   | zero => omega
   | succ d =>
    simp only [eqShape, hu] at h
    cases hh : P.stoodInHeld t with
    | true => rw [hh] at h; simp at h
    | false =>
     rw [hh] at h
     simp only [cond_false] at h
     have hf : P.fieldsOf t = fs := by simp [Program.fieldsOf, hu]
     rw [run_equalIn_struct w d t xs ys (by rw [hf]; exact hu) hh, hf]
     exact walk fs.toList 0 ks d xs ys a b r h (by omega) hx hy hr
  refine ⟨fun t ks d xs ys a b r off i h hd hx hy hr hi hsz => ?_, str⟩
  obtain ⟨la, lb⟩ := eqCells_len hr
  have hgx := hx.1
  have hgy := hy.1
  cases d with
  | zero => omega
  | succ d =>
   have h' := h
   simp only [eqShape] at h
   split at h
   ·rename_i hu
    have h := Option.some.inj h; subst h
    obtain ⟨x, rfl⟩ := List.length_eq_one_iff.1 la
    obtain ⟨y, rfl⟩ := List.length_eq_one_iff.1 lb
    simp only [eqCells, Option.bind_eq_some_iff, Option.some.injEq] at hr
    obtain ⟨r0, h0, r1, h1, hr⟩ := hr
    subst h1; simp at hr; subst hr
    have qx := hx.2 0 x rfl
    have qy := hy.2 0 y rfl
    simp at hgx hgy
    have gx := getD_some (l := xs) (i := off + 0) (by omega)
    have gy := getD_some (l := ys) (i := off + 0) (by omega)
    generalize xs.getD (off + 0) Go.undef = vx at gx qx
    generalize ys.getD (off + 0) Go.undef = vy at gy qy
    rw [Nat.add_zero] at gx gy
    have hag := run_isAgg' (P := P) (w := w) hu (g := false) rfl
    rcases eqSc_run h0 qx qy with ⟨hk, _⟩ | ⟨_, p, q, rfl, rfl, rfl⟩
    ·simp at hk
    ·exact ⟨_, _, by simp [part, hag, gx], by simp [part, hag, gy], run_equalIn_bool' w d t p q hu⟩
   ·rename_i kk hu
    have h := Option.some.inj h; subst h
    obtain ⟨x, rfl⟩ := List.length_eq_one_iff.1 la
    obtain ⟨y, rfl⟩ := List.length_eq_one_iff.1 lb
    simp only [eqCells, Option.bind_eq_some_iff, Option.some.injEq] at hr
    obtain ⟨r0, h0, r1, h1, hr⟩ := hr
    subst h1; simp at hr; subst hr
    have qx := hx.2 0 x rfl
    have qy := hy.2 0 y rfl
    simp at hgx hgy
    have gx := getD_some (l := xs) (i := off + 0) (by omega)
    have gy := getD_some (l := ys) (i := off + 0) (by omega)
    generalize xs.getD (off + 0) Go.undef = vx at gx qx
    generalize ys.getD (off + 0) Go.undef = vy at gy qy
    rw [Nat.add_zero] at gx gy
    have hag := run_isAgg' (P := P) (w := w) hu (g := false) rfl
    rcases eqSc_run h0 qx qy with ⟨_, k', p, q, rfl, rfl, rfl⟩ | ⟨hk, _⟩
    ·exact ⟨_, _, by simp [part, hag, gx], by simp [part, hag, gy], run_equalIn_int w d t k' kk p q hu⟩
    ·simp at hk
   ·rename_i fs hu
    have hag := run_isAgg' (P := P) (w := w) hu (g := true) rfl
    have hso : (sizeOf t).run P w = .ok ks.length w := by simp [sizeOf, typeInfo, hi, hsz]
    refine ⟨.agg (xs.extract off (off + ks.length)), .agg (ys.extract off (off + ks.length)), by simp [part, hag, hso], by simp [part, hag, hso], ?_⟩
    refine str t ks (d + 1) _ _ a b r h' hd ⟨fs, hu⟩ ⟨by simp; omega, fun j c hc => ?_⟩ ⟨by simp; omega, fun j c hc => ?_⟩ hr
    ·have hj : j < a.length := (List.getElem?_eq_some_iff.1 hc).1
     rw [Nat.zero_add, extract_getD _ _ _ _ (by omega) (by omega)]
     exact hx.2 j c hc
    ·have hj : j < b.length := (List.getElem?_eq_some_iff.1 hc).1
     rw [Nat.zero_add, extract_getD _ _ _ _ (by omega) (by omega)]
     exact hy.2 j c hc
   ·simp at h
structure RowsOk (R : Rows RT den) (tbl : List (Nat × TI)) : Prop where
 size : ∀ τ x, (R.cells τ x).length = R.size τ
 dec : ∀ τ cs x, R.dec τ cs = some x → R.cells τ x = cs
 pure : ∀ τ x, (R.cells τ x).all D.pure = true
 scl : ∀ τ, R.scl τ = true → ∀ x, (R.cells τ x).all D.sce = true
 byt : ∀ τ, R.byt τ = true → ∀ x, ∃ v, R.cells τ x = [.int .u8 v]
 rt : ∀ t τ n, R.rt t = some τ → (tbl.lookup t).map TI.sz = some n → R.size τ = n
def zsOk (tbl : List (Nat × TI)) (x : Nat × List (D RT den)) : Bool := (tbl.lookup x.1).map TI.sz == some x.2.length
theorem envOf_ok {tab : Nat → Option (Array Value)} {tbl : List (Nat × TI)} {R : Rows RT den} {zs : List (Nat × List (D RT den))} {fn : Nat → Option Func} {par : Nat → List Nat} (h1 : tbl.all (tiOk P) = true) (h2 : zs.all (zOk P) = true) (h3 : zs.all (zsOk tbl) = true)
  (h4 : ∀ f g, fn f = some g → P.funcs[f]? = some g) (h5 : RowsOk R tbl) (h6 : P.follows .mixedOrders = true) : Ok (envOf P tbl R zs fn par tab) P := by
 have ti : ∀ t x, tbl.lookup t = some x → tiOk P (t, x) = true := fun t x hx => by
  rw [List.all_eq_true] at h1
  exact h1 _ (lookup_mem' hx)
 have get : ∀ t x, tbl.lookup t = some x → ∃ i d, P.info? t = some i ∧ P.underlying t = some d ∧ i.size = x.sz ∧ i.bytes = x.bytes ∧ d.isRow = x.agg ∧ (∀ e, x.elem = some e → d = .slice e) ∧
   (∀ (j : Nat) (p : Nat × Nat), x.flds[j]? = some p → ∃ (fs : Array Field) (f : Field), d = .struct fs ∧ fs[j]? = some f ∧ f.offset = p.1 ∧ f.type = p.2) ∧ (x.str = true → ∃ fs : Array Field, d = .struct fs ∧ (fs.toList.mapM fun f => (P.info? f.type).map fun i => (f.offset, i.size)).isSome = true) ∧
   (∀ ks, x.eq = some ks → eqShape P 20 t = some ks ∧ P.eqGuardType P.depth t = false ∧ ∃ fs, d = .struct fs) ∧ (x.eqb = true → d = .bool) ∧ (∀ k, x.ik = some k → d = .int k) ∧ (x.est = true → d = .string) := by
  intro t x hx
  have hq := ti t x hx
  unfold tiOk at hq
  cases hi : P.info? t with
  | none => simp [hi] at hq
  | some i =>
  cases hu : P.underlying t with
  | none => simp [hi, hu] at hq
  | some d =>
  simp only [hi, hu, Bool.and_eq_true, beq_iff_eq] at hq
  obtain ⟨⟨⟨⟨⟨⟨⟨⟨⟨q1, q2⟩, q3⟩, q4⟩, q5⟩, q6⟩, q7⟩, q8⟩, q9⟩, q10⟩ := hq
  refine ⟨i, d, rfl, rfl, q1, q2, q3, ?_, ?_, ?_, ?_, ?_, ?_, ?_⟩
  rotate_right
  ·intro hb
   rw [hb] at q10
   simp only [Bool.not_true, Bool.false_or] at q10
   split at q10
   ·rfl
   ·cases q10
  ·intro e he
   rw [he] at q4
   dsimp only at q4
   split at q4
   ·have := eq_of_beq q4
    rw [this]
   ·simp at q4
  ·intro j p hp
   split at q5
   ·rename_i fs
    have q5 : x.flds = fs.toList.map (fun f => (f.offset, f.type)) := by simpa using q5
    rw [q5, List.getElem?_map] at hp
    cases hf : fs.toList[j]? with
    | none => simp [hf] at hp
    | some f =>
     simp [hf] at hp
     subst hp
     exact ⟨fs, f, rfl, by simpa using hf, rfl, rfl⟩
   ·have q5 : x.flds = [] := by simpa using q5
    rw [q5] at hp; simp at hp
  ·intro hs
   rw [hs] at q6
   simp only [Bool.not_true, Bool.false_or] at q6
   split at q6
   ·exact ⟨_, rfl, q6⟩
   ·simp at q6
  ·intro ks hks
   rw [hks] at q7
   simp only [Bool.and_eq_true, beq_iff_eq, Bool.not_eq_true'] at q7
   refine ⟨q7.1.1, q7.1.2, ?_⟩
   have := q7.2
   split at this
   ·exact ⟨_, rfl⟩
   ·simp at this
  ·intro hb
   rw [hb] at q8
   simp only [Bool.not_true, Bool.false_or] at q8
   split at q8
   ·rfl
   ·simp at q8
  ·intro k hk
   rw [hk] at q9
   dsimp only at q9
   split at q9
   ·rw [of_decide_eq_true q9]
   ·simp at q9
 constructor
 ·exact h4
 ·intro t g hg
  simp only [envOf, Option.map_eq_some_iff] at hg
  obtain ⟨x, hx, rfl⟩ := hg
  obtain ⟨i, d, hi, hu, g1, g2, g3, _⟩ := get t x hx
  exact ⟨d, hu, g3⟩
 ·intro t n hn
  simp only [envOf, Option.map_eq_some_iff] at hn
  obtain ⟨x, hx, rfl⟩ := hn
  obtain ⟨i, d, hi, hu, g1, g2, g3, _⟩ := get t x hx
  simp [hi, g1]
 ·intro t n hn
  simp only [envOf, Option.map_eq_some_iff] at hn
  obtain ⟨x, hx, rfl⟩ := hn
  obtain ⟨i, d, hi, hu, g1, g2, g3, _⟩ := get t x hx
  simp [hi, g2]
 ·intro t e he
  simp only [envOf, Option.bind_eq_some_iff] at he
  obtain ⟨x, hx, he⟩ := he
  obtain ⟨i, d, hi, hu, g1, g2, g3, g4, _⟩ := get t x hx
  rw [hu, g4 e he]
 ·intro t j p hp
  simp only [envOf, Option.bind_eq_some_iff] at hp
  obtain ⟨x, hx, hp⟩ := hp
  obtain ⟨i, d, hi, hu, g1, g2, g3, g4, g5, _⟩ := get t x hx
  obtain ⟨fs, f, rfl, hf⟩ := g5 j p hp
  exact ⟨fs, f, hu, hf⟩
 ·intro t cs hz
  have hm := lookup_mem' hz
  rw [List.all_eq_true] at h2 h3
  have z2 := h2 _ hm
  have z3 := h3 _ hm
  unfold zOk at z2
  unfold zsOk at z3
  dsimp only at z2 z3
  cases hi : P.info? t with
  | none => simp [hi] at z2
  | some i =>
  simp only [hi] at z2
  cases hzz : i.zero with
  | none => simp [hzz] at z2
  | some z =>
  simp only [hzz, Bool.and_eq_true, beq_iff_eq] at z2
  obtain ⟨y1, y2⟩ := sameZs_get z2.1
  refine ⟨z, by simp [hzz], by simpa using y1, by simpa [envOf] using z3, ?_, ?_⟩
  ·rw [List.all_eq_true]
   intro c hc
   obtain ⟨j, hj, rfl⟩ := List.getElem_of_mem hc
   obtain ⟨v, _, hs⟩ := y2 j _ (List.getElem?_eq_getElem hj)
   exact sameZ_pure hs
  ·intro F w j c hc
   obtain ⟨v, hv, hs⟩ := y2 j c hc
   have e : z.cells.getD j Go.undef = v := by
    rw [← getD_toList, List.getD_eq_getElem?_getD, hv]; rfl
   rw [e]
   exact sameZ_rep hs
 ·intro t ht
  simp only [envOf] at ht
  split at ht
  ·rename_i x hx
   obtain ⟨i, d, hi, hu, g1, g2, g3, g4, g5, g6, _⟩ := get t x hx
   obtain ⟨fs, rfl, hm⟩ := g6 ht
   exact ⟨fs, hu, hm⟩
  ·simp at ht
 ·intro t k hk
  simp only [envOf, Option.bind_eq_some_iff] at hk
  obtain ⟨x, hx, hk⟩ := hk
  obtain ⟨i, d, hi, hu, g1, g2, g3, g4, g5, g6, g7, g8, g9, _⟩ := get t x hx
  rw [hu, g9 k hk]
 ·intro t ht
  simp only [envOf] at ht
  split at ht
  ·rename_i x hx
   obtain ⟨i, d, hi, hu, g1, g2, g3, g4, g5, g6, g7, g8, g9, g10⟩ := get t x hx
   rw [hu, g10 ht]
  ·simp at ht
 ·exact h5.byt
 ·intro t ht w a b
  simp only [envOf] at ht
  split at ht
  ·rename_i x hx
   obtain ⟨i, d, hi, hu, g1, g2, g3, g4, g5, g6, g7, g8, g9⟩ := get t x hx
   rw [g8 ht] at hu
   exact run_equal_bool w t a b hu
  ·simp at ht
 ·intro t ks hks F w β a b r xs ys hr hx hy
  simp only [envOf, Option.bind_eq_some_iff] at hks
  obtain ⟨x, hx', hks⟩ := hks
  obtain ⟨i, d, hi, hu, g1, g2, g3, g4, g5, g6, g7, g8, g9⟩ := get t x hx'
  obtain ⟨e1, e2, fs, rfl⟩ := g7 ks hks
  refine ⟨?_, e2⟩
  cases hx with
  | agg _ _ l1 l2 =>
  cases hy with
  | agg _ _ m1 m2 =>
  exact (eq_run (P := P) w 20).2 t ks 10000 xs ys a b r e1 (by omega) ⟨fs, hu⟩ ⟨by omega, fun j c hc => by rw [Nat.zero_add]; exact l2 j c hc⟩ ⟨by omega, fun j c hc => by rw [Nat.zero_add]; exact m2 j c hc⟩ hr
 ·exact h5.size
 ·exact h5.dec
 ·exact h5.pure
 ·exact h5.scl
 ·intro t τ n ht hn
  exact h5.rt t τ n ht hn
 ·exact h6
end Go.Proofs.Ytcmfekgdlaffkaa.Vm

