
/- The value machine: when a told value is a value of the machine, and when a told state is a state of it. Conditions: none. -/
import Derived.Test.YtcmfekgdlaffkaaVmA
import Derived.Below
import Derived.Laws.CopyRow
import Derived.Laws.StructEq
import Derived.Deep.MidRow
namespace Go.Proofs.Ytcmfekgdlaffkaa.Vm
open Go Go.RowKit
set_option linter.unusedVariables false
set_option linter.unusedSimpArgs false
variable {RT : Type} {den : RT → Type}
abbrev Frz := Nat → Nat → Prop
structure Bet where
 r : Nat → Option (Nat × (Nat × Nat))
 h : Nat → List Nat → Option (Nat × (Nat × Nat))
instance : CoeFun Bet (fun _ => Nat → Option (Nat × (Nat × Nat))) := ⟨Bet.r⟩
def noBet : Bet := ⟨fun _ => none, fun _ _ => none⟩
def at' (b o : Nat) : Addr := ⟨b, o, none⟩
inductive VRep (E : Env RT den) (F : Frz) (w : World) : Bet → D RT den → Value → Prop
 | int {β : Bet} (k : IntKind) (n : Int) : VRep E F w β (.int k n) (.int k n)
 | bool {β : Bet} (b : Bool) : VRep E F w β (.bool b) (.bool b)
 | str {β : Bet} (s : ByteArray) : VRep E F w β (.str s) (.string s)
 | undef {β : Bet} : VRep E F w β .undef Go.undef
 | q {β : Bet} (v : Value) : VRep E F w β .q v
 | nil {β : Bet} : VRep E F w β .nil (.pointer none)
 | ref {β : Bet} (o off b : Nat) (m : Nat × Nat) : β o = some (b, m) → VRep E F w β (.ref o off) (.pointer (some (at' b off)))
 | eref {β : Bet} (o sz j off b : Nat) (m : Nat × Nat) : β o = some (b, m) → j < m.1 → VRep E F w β (.eref o sz j off) (.pointer (some (at' b (j * sz + off))))
 | rptr {β : Bet} (cs : List (D RT den)) (b o : Nat) (u : Nat → Value) : (∀ j c, cs[j]? = some c → VRep E F w noBet c (u j)) →
   (∀ j, j < cs.length → F b (o + j) ∧ w.cell? (at' b (o + j)) = some (u j)) → VRep E F w β (.rptr cs) (.pointer (some (at' b o)))
 | rs {β : Bet} (z : Option Bool) (τ : RT) (n : Nat) (f : Nat → den τ) (a : Option Addr) (cap b o : Nat) (u : Nat → Nat → Value) : (n ≠ 0 → a = some (at' b o)) →
   (z = some true → a = none) → (z = some false → a ≠ none) → (n ≠ 0 → ∀ p, a = some p → p.spot = none) → n ≤ cap → (a = none → cap = 0) →
   (∀ i j c, i < n → (E.cells τ (f i))[j]? = some c → VRep E F w noBet c (u i j)) →
   (∀ i j, i < n → j < E.size τ → F b (o + i * E.size τ + j) ∧ w.cell? (at' b (o + i * E.size τ + j)) = some (u i j)) →
   VRep E F w β (.rs z τ n f) (.slice a n cap)
 | emp {β : Bet} (z : Bool) (τ : RT) (a : Option Addr) : (z = true → a = none) → (z = false → a ≠ none) → (∀ p, a = some p → p.spot = none) → VRep E F w β (.emp z τ) (.slice a 0 0)
 | os {β : Bet} (o len cap b : Nat) (m : Nat × Nat) : β o = some (b, m) → len ≤ cap ∧ cap = m.2 → len ≤ m.1 → VRep E F w β (.os o len) (.slice (some (at' b 0)) len cap)
 | os0 {β : Bet} (o : Nat) (a : Option Addr) : (∀ p, a = some p → p.spot = none) → VRep E F w β (.os o 0) (.slice a 0 0)
 | osn {β : Bet} (o i j len cap b : Nat) (m : Nat × Nat) : β.h o [i, j] = some (b, m) → len ≤ cap ∧ cap = m.2 → len ≤ m.1 → VRep E F w β (.osn o i j len) (.slice (some (at' b 0)) len cap)
 | osn0 {β : Bet} (o i j : Nat) (a : Option Addr) : (∀ p, a = some p → p.spot = none) → VRep E F w β (.osn o i j 0) (.slice a 0 0)
 | osp {β : Bet} (o sz off len cap b : Nat) (m : Nat × Nat) : β o = some (b, m) → len ≤ cap → off + len ≤ m.1 → VRep E F w β (.osp o sz off len) (.slice (some (at' b (off * sz))) len cap)
 | osp0 {β : Bet} (o sz off : Nat) (a : Option Addr) : (∀ p, a = some p → p.spot = none) → VRep E F w β (.osp o sz off 0) (.slice a 0 0)
 | lit {β : Bet} (τ : RT) (cs : List (D RT den)) (b o : Nat) (u : Nat → Value) : cs.length = E.size τ → (∀ j c, cs[j]? = some c → VRep E F w β c (u j)) →
   (∀ j, j < cs.length → F b (o + j) ∧ w.cell? (at' b (o + j)) = some (u j)) → VRep E F w β (.lit τ cs) (.slice (some (at' b o)) 1 1)
 | fn {β : Bet} (f : Nat) (cap : List (D RT den)) (vs : Array Value) : cap.length = vs.size → (∀ j c, cap[j]? = some c → VRep E F w β c (vs.getD j Go.undef)) →
   VRep E F w β (.fn f cap) (.func (.func f) #[] vs)
 | agg {β : Bet} (cs : List (D RT den)) (vs : Array Value) : cs.length = vs.size → (∀ j c, cs[j]? = some c → VRep E F w β c (vs.getD j Go.undef)) → VRep E F w β (.agg cs) (.agg vs)
 | tup {β : Bet} (cs : List (D RT den)) (vs : Array Value) : cs.length = vs.size → (∀ j c, cs[j]? = some c → VRep E F w β c (vs.getD j Go.undef)) → VRep E F w β (.tup cs) (.tuple vs)
def Keeps (F : Frz) (w w' : World) : Prop := ∀ b o u, F b o → w.cell? (at' b o) = some u → w'.cell? (at' b o) = some u
theorem D.fl2_flat {d : D RT den} (h : d.fl2 = true) : d.flat = true := by cases d <;> first | rfl | (cases h; done) | exact h
theorem Keeps.refl (F : Frz) (w : World) : Keeps F w w := fun _ _ _ _ h => h
def Bet.le (β β' : Bet) : Prop := (∀ o b, β o = some b → β' o = some b) ∧ ∀ o p b, β.h o p = some b → β'.h o p = some b
theorem Bet.le_refl (β : Bet) : β.le β := ⟨fun _ _ h => h, fun _ _ _ h => h⟩
variable {E : Env RT den}
theorem VRep.mono {F F' : Frz} {w w' : World} (hF : ∀ b o, F b o → F' b o) (hw : Keeps F w w') {β : Bet} {d : D RT den} {v : Value} (h : VRep E F w β d v) : ∀ {β' : Bet}, β.le β' → VRep E F' w' β' d v := by
 induction h with
 | int k n => intro _ _; exact .int k n
 | bool b => intro _ _; exact .bool b
 | str s => intro _ _; exact .str s
 | undef => intro _ _; exact .undef
 | q v => intro _ _; exact .q v
 | nil => intro _ _; exact .nil
 | ref o off b m h => intro _ hb; exact .ref o off b m (hb.1 _ _ h)
 | eref o sz j off b m h h' => intro _ hb; exact .eref o sz j off b m (hb.1 _ _ h) h'
 | rptr cs b o u h1 h2 ih => intro _ _; exact .rptr cs b o u (fun j c hc => ih j c hc (Bet.le_refl _)) (fun j hj => ⟨hF _ _ (h2 j hj).1, hw _ _ _ (h2 j hj).1 (h2 j hj).2⟩)
 | rs z τ n f a cap b o u h1 h2 h3 h4 h5 h6 h7 h8 ih =>
  intro _ _
  exact .rs z τ n f a cap b o u h1 h2 h3 h4 h5 h6 (fun i j c hi hc => ih i j c hi hc (Bet.le_refl _)) (fun i j hi hj => ⟨hF _ _ (h8 i j hi hj).1, hw _ _ _ (h8 i j hi hj).1 (h8 i j hi hj).2⟩)
 | emp z τ a h1 h2 h3 => intro _ _; exact .emp z τ a h1 h2 h3
 | os o len cap b m h h' h'' => intro _ hb; exact .os o len cap b m (hb.1 _ _ h) h' h''
 | os0 o a h => intro _ _; exact .os0 o a h
 | osn o i j len cap b m h h' h'' => intro _ hb; exact .osn o i j len cap b m (hb.2 _ _ _ h) h' h''
 | osn0 o i j a h => intro _ _; exact .osn0 o i j a h
 | osp o sz off len cap b m h h' h'' => intro _ hb; exact .osp o sz off len cap b m (hb.1 _ _ h) h' h''
 | osp0 o sz off a h => intro _ _; exact .osp0 o sz off a h
 | lit τ cs b o u h0 h1 h2 ih => intro _ hb; exact .lit τ cs b o u h0 (fun j c hc => ih j c hc hb) (fun j hj => ⟨hF _ _ (h2 j hj).1, hw _ _ _ (h2 j hj).1 (h2 j hj).2⟩)
 | fn f cap vs h1 h2 ih => intro _ hb; exact .fn f cap vs h1 (fun j c hc => ih j c hc hb)
 | agg cs vs h1 h2 ih => intro _ hb; exact .agg cs vs h1 (fun j c hc => ih j c hc hb)
 | tup cs vs h1 h2 ih => intro _ hb; exact .tup cs vs h1 (fun j c hc => ih j c hc hb)
theorem VRep.sp {F : Frz} {w : World} {β β' : Bet} {d : D RT den} {v : Value} (hd : d.sp = true) (h : VRep E F w β d v) : VRep E F w β' d v := by
 cases h with
 | int k n => exact .int k n
 | bool b => exact .bool b
 | str s => exact .str s
 | nil => exact .nil
 | rptr cs b o u h1 h2 => exact .rptr cs b o u h1 h2
 | rs z τ n f a cap b o u h1 h2 h3 h4 h5 h6 h7 h8 => exact .rs z τ n f a cap b o u h1 h2 h3 h4 h5 h6 h7 h8
 | emp z τ a h1 h2 h3 => exact .emp z τ a h1 h2 h3
 | _ => simp [D.sp] at hd
theorem VRep.spc {F : Frz} {w : World} {β β' : Bet} {d : D RT den} {v : Value} (hd : d.spc = true) (h : VRep E F w β d v) : VRep E F w β' d v := by
 cases h with
 | agg cs vs h1 h2 =>
  simp only [D.spc, List.all_eq_true] at hd
  exact .agg cs vs h1 (fun j c hc => (h2 j c hc).sp (hd c (List.mem_of_getElem? hc)))
 | int k n => exact .int k n
 | bool b => exact .bool b
 | str s => exact .str s
 | nil => exact .nil
 | rptr cs b o u h1 h2 => exact .rptr cs b o u h1 h2
 | rs z τ n f a cap b o u h1 h2 h3 h4 h5 h6 h7 h8 => exact .rs z τ n f a cap b o u h1 h2 h3 h4 h5 h6 h7 h8
 | emp z τ a h1 h2 h3 => exact .emp z τ a h1 h2 h3
 | _ => simp [D.spc, D.sp] at hd
theorem VRep.pure {F : Frz} {w : World} {β β' : Bet} {d : D RT den} {v : Value} (hd : d.pure = true) (h : VRep E F w β d v) : VRep E F w β' d v := by
 cases h with
 | int k n => exact .int k n
 | bool b => exact .bool b
 | str s => exact .str s
 | nil => exact .nil
 | rptr cs b o u h1 h2 => exact .rptr cs b o u h1 h2
 | rs z τ n f a cap b o u h1 h2 h3 h4 h5 h6 h7 h8 => exact .rs z τ n f a cap b o u h1 h2 h3 h4 h5 h6 h7 h8
 | emp z τ a h1 h2 h3 => exact .emp z τ a h1 h2 h3
 | fn f cap vs h1 h2 =>
  simp only [D.pure, List.all_eq_true] at hd
  exact .fn f cap vs h1 (fun j c hc => (h2 j c hc).spc (hd c (List.mem_of_getElem? hc)))
 | _ => simp [D.pure] at hd
theorem getD_mem {α : Type} {l : List α} {j : Nat} {c : α} (h : l[j]? = some c) : c ∈ l := List.mem_of_getElem? h
theorem VRep.pures {F : Frz} {w : World} {β β' : Bet} {d : D RT den} {v : Value} (hd : d.pures = true) (h : VRep E F w β d v) : VRep E F w β' d v := by
 cases h with
 | agg cs vs h1 h2 =>
  simp only [D.pures, List.all_eq_true] at hd
  exact .agg cs vs h1 (fun j c hc => (h2 j c hc).pure (hd c (getD_mem hc)))
 | tup cs vs h1 h2 =>
  simp only [D.pures, List.all_eq_true] at hd
  refine .tup cs vs h1 (fun j c hc => ?_)
  have hq := hd c (getD_mem hc)
  have hr := h2 j c hc
  generalize vs.getD j Go.undef = y at hr ⊢
  split at hq
  ·cases hr with
   | agg cs' vs' k1 k2 =>
    simp only [List.all_eq_true] at hq
    exact .agg _ _ k1 (fun i c' hc' => (k2 i c' hc').pure (hq c' (getD_mem hc')))
  ·exact hr.pure hq
 | int k n => exact .int k n
 | bool b => exact .bool b
 | str s => exact .str s
 | nil => exact .nil
 | rptr cs b o u h1 h2 => exact .rptr cs b o u h1 h2
 | rs z τ n f a cap b o u h1 h2 h3 h4 h5 h6 h7 h8 => exact .rs z τ n f a cap b o u h1 h2 h3 h4 h5 h6 h7 h8
 | emp z τ a h1 h2 h3 => exact .emp z τ a h1 h2 h3
 | fn f cap vs h1 h2 => exact VRep.pure (by simpa [D.pures] using hd) (.fn f cap vs h1 h2)
 | _ => simp [D.pures, D.pure] at hd
theorem VRep.sc {F F' : Frz} {w w' : World} {β β' : Bet} {d : D RT den} {v : Value} (hd : d.sc = true) (h : VRep E F w β d v) : VRep E F' w' β' d v := by
 cases h <;> first | (simp [D.sc] at hd; done) | constructor
theorem VRep.sce {F F' : Frz} {w w' : World} {β β' : Bet} {d : D RT den} {v : Value} (hd : d.sce = true) (h : VRep E F w β d v) : VRep E F' w' β' d v := by
 cases h with
 | emp z τ a h1 h2 h3 => exact .emp z τ a h1 h2 h3
 | int k n => exact .int k n
 | bool b => exact .bool b
 | str b => exact .str b
 | _ => simp [D.sce] at hd
theorem VRep.scalar {F F' : Frz} {w w' : World} {β β' : Bet} {d : D RT den} {v : Value} (hd : d.scalar = true) (h : VRep E F w β d v) : VRep E F' w' β' d v := by
 cases h with
 | agg cs vs h1 h2 =>
  simp only [D.scalar, List.all_eq_true] at hd
  exact .agg cs vs h1 (fun j c hc => (h2 j c hc).sc (hd c (getD_mem hc)))
 | tup cs vs h1 h2 =>
  simp only [D.scalar, List.all_eq_true] at hd
  refine .tup cs vs h1 (fun j c hc => ?_)
  have hq := hd c (getD_mem hc)
  have hr := h2 j c hc
  generalize vs.getD j Go.undef = y at hr ⊢
  split at hq
  ·cases hr with
   | agg cs' vs' k1 k2 =>
    simp only [List.all_eq_true] at hq
    exact .agg _ _ k1 (fun i c' hc' => (k2 i c' hc').sc (hq c' (getD_mem hc')))
  ·exact hr.sc hq
 | int k n => exact .int k n
 | bool b => exact .bool b
 | str s => exact .str s
 | _ => simp [D.scalar, D.sc] at hd
theorem VRep.oneCell {F : Frz} {w : World} {β : Bet} {d : D RT den} {v : Value} (hd : d.flat = true) (h : VRep E F w β d v) : v.oneCell' = true := by
 cases h <;> first | rfl | (simp [D.flat] at hd; done)
theorem VRep.cells {F : Frz} {w : World} {β : Bet} {d : D RT den} {v : Value} (hd : d.cells.all D.flat = true) (h : VRep E F w β d v) :
  d.cells.length = v.cells.size ∧ (∀ j c, d.cells[j]? = some c → VRep E F w β c (v.cells.getD j Go.undef)) ∧ ∀ x ∈ v.cells.toList, x.oneCell' = true := by
 have key : ∀ (l : List (D RT den)) (vs : Array Value), l.length = vs.size → (∀ j c, l[j]? = some c → VRep E F w β c (vs.getD j Go.undef)) → l.all D.flat = true → ∀ x ∈ vs.toList, x.oneCell' = true := by
  intro l vs h1 h2 h3 x hx
  obtain ⟨j, hj, rfl⟩ := List.getElem_of_mem hx
  have hj' : j < l.length := by simp at hj; omega
  have hc := h2 j l[j] (List.getElem?_eq_getElem hj')
  have hj2 : j < vs.size := by omega
  have hg : vs.getD j Go.undef = vs.toList[j] := by simp [Array.getD, hj2]
  rw [hg] at hc
  exact hc.oneCell (by simp only [List.all_eq_true] at h3; exact h3 _ (List.getElem_mem hj'))
 have triv : ∀ (d' : D RT den) (v' : Value), VRep E F w β d' v' → d'.flat = true → v'.cells = #[v'] → d'.cells = [d'] → d'.cells.length = v'.cells.size ∧ (∀ j c, d'.cells[j]? = some c → VRep E F w β c (v'.cells.getD j Go.undef)) ∧ ∀ x ∈ v'.cells.toList, x.oneCell' = true := by
  intro d' v' h1 h2 h3 h4
  rw [h3, h4]
  refine ⟨rfl, ?_, ?_⟩
  ·intro j c hc
   cases j with
   | zero => simp at hc; subst hc; simpa using h1
   | succ j => simp at hc
  ·intro x hx; simp at hx; subst hx; exact h1.oneCell h2
 cases h with
 | agg cs vs h1 h2 => exact ⟨h1, h2, key cs vs h1 h2 hd⟩
 | tup cs vs h1 h2 => simp [D.cells, D.flat] at hd
 | undef => simp [D.cells, D.flat] at hd
 | q v => simp [D.cells, D.flat] at hd
 | int k n => exact triv _ _ (.int k n) rfl rfl rfl
 | bool b => exact triv _ _ (.bool b) rfl rfl rfl
 | str s => exact triv _ _ (.str s) rfl rfl rfl
 | nil => exact triv _ _ .nil rfl rfl rfl
 | ref o off b m h => exact triv _ _ (.ref o off b m h) rfl rfl rfl
 | eref o sz j off b m h h' => exact triv _ _ (.eref o sz j off b m h h') rfl rfl rfl
 | rptr cs b o u h1 h2 => exact triv _ _ (.rptr cs b o u h1 h2) rfl rfl rfl
 | rs z τ n f a cap b o u h1 h2 h3 h4 h5 h6 h7 h8 => exact triv _ _ (.rs z τ n f a cap b o u h1 h2 h3 h4 h5 h6 h7 h8) rfl rfl rfl
 | emp z τ a h1 h2 h3 => exact triv _ _ (.emp z τ a h1 h2 h3) rfl rfl rfl
 | os o len cap b m h h' h'' => exact triv _ _ (.os o len cap b m h h' h'') rfl rfl rfl
 | os0 o a h => exact triv _ _ (.os0 o a h) rfl rfl rfl
 | osn o i j len cap b m h h' h'' => exact triv _ _ (.osn o i j len cap b m h h' h'') rfl rfl rfl
 | osn0 o i j a h => exact triv _ _ (.osn0 o i j a h) rfl rfl rfl
 | osp o sz off len cap b m h h' h'' => exact triv _ _ (.osp o sz off len cap b m h h' h'') rfl rfl rfl
 | osp0 o sz off a h => exact triv _ _ (.osp0 o sz off a h) rfl rfl rfl
 | lit τ cs b o u h0 h1 h2 => exact triv _ _ (.lit τ cs b o u h0 h1 h2) rfl rfl rfl
 | fn f cap vs h1 h2 => exact triv _ _ (.fn f cap vs h1 h2) rfl rfl rfl
structure Ok (E : Env RT den) (P : Program) : Prop where
 fn : ∀ f fn, E.fn f = some fn → P.funcs[f]? = some fn
 agg : ∀ t g, E.agg t = some g → ∃ d, P.underlying t = some d ∧ (d.isRow = g)
 sz : ∀ t n, E.sz t = some n → (P.info? t).map (·.size) = some n
 bytes : ∀ t n, E.bytes t = some n → (P.info? t).map (·.bytes) = some n
 elem : ∀ t e, E.elem t = some e → P.underlying t = some (.slice e)
 fld : ∀ t i p, E.fld t i = some p → ∃ fs f, P.underlying t = some (.struct fs) ∧ fs[i]? = some f ∧ f.offset = p.1 ∧ f.type = p.2
 zero : ∀ t cs, E.zero t = some cs → ∃ z, (P.info? t).bind (·.zero) = some z ∧ z.cells.size = cs.length ∧ (E.sz t = some cs.length) ∧ cs.all D.pure = true ∧
  ∀ (F : Frz) (w : World) j c, cs[j]? = some c → VRep E F w noBet c (z.cells.getD j Go.undef)
 str : ∀ t, E.str t = true → ∃ fs, P.underlying t = some (.struct fs) ∧ (fs.toList.mapM fun f => (P.info? f.type).map fun i => (f.offset, i.size)).isSome = true
 ik : ∀ t k, E.ik t = some k → P.underlying t = some (.int k)
 est : ∀ t, E.est t = true → P.underlying t = some .string
 byt : ∀ τ, E.byt τ = true → ∀ x, ∃ v, E.cells τ x = [.int .u8 v]
 eqb : ∀ t, E.eqb t = true → ∀ (w : World) (a b : Bool), (Op.equal t (.bool a) (.bool b)).run P w = .ok (a == b) w
 eqs : ∀ t ks, E.eqok t = some ks → ∀ (F : Frz) (w : World) (β : Bet) (a b : List (D RT den)) (r : Bool) (xs ys : Array Value), eqCells ks a b = some r → VRep E F w β (.agg a) (.agg xs) → VRep E F w β (.agg b) (.agg ys) →
  (Op.equal t (.agg xs) (.agg ys)).run P w = .ok r w ∧ P.eqGuardType P.depth t = false
 size : ∀ τ x, (E.cells τ x).length = E.size τ
 dec : ∀ τ cs x, E.dec τ cs = some x → E.cells τ x = cs
 pure : ∀ τ x, (E.cells τ x).all D.pure = true
 scl : ∀ τ, E.scl τ = true → ∀ x, (E.cells τ x).all D.sce = true
 rt : ∀ t τ n, E.rt t = some τ → E.sz t = some n → E.size τ = n
 mixed : P.follows .mixedOrders = true
def ORep (E : Env RT den) (F : Frz) (w : World) (β : Bet) (b : Nat) (m : Nat × Nat) : Ob RT den → Prop
 | .box _ cs => ∃ cur e, w.heap[b]? = some (.cells cur e (0, 0)) ∧ cur.size = cs.length ∧ ∀ j c, cs[j]? = some c → VRep E F w β c (cur.getD j Go.undef)
 | .row _ τ n f => m.1 = n ∧ (n ≤ m.2 ∧ m.2 ≤ 9223372036854775807) ∧ ∃ cur e, w.heap[b]? = some (.cells cur e (0, 0)) ∧ cur.size = m.2 * E.size τ ∧ ∀ i j c, i < n → (E.cells τ (f i))[j]? = some c → VRep E F w noBet c (cur.getD (i * E.size τ + j) Go.undef)
 | .deep .. => True
 | .gone => True
inductive TRep (E : Env RT den) (w : World) (H : List Nat → Option (Nat × (Nat × Nat))) : List Nat → D RT den → Value → Prop
 | sc (p : List Nat) (d : D RT den) (v : Value) : d.sce = true → VRep E (fun _ _ => False) w noBet d v → TRep E w H p d v
 | nul (p : List Nat) (z : Option Bool) (τ : RT) (f : Nat → den τ) (a : Option Addr) : (z = some true → a = none) → (z = some false → a ≠ none) → (∀ q, a = some q → q.spot = none) → (∀ q, H (p ++ q) = none) → TRep E w H p (.rs z τ 0 f) (.slice a 0 0)
 | row (p : List Nat) (τ : RT) (n : Nat) (f : Nat → den τ) (cap b : Nat) (cur : Array Value) (e : TypeId) : H p = some (b, (n, cap)) → n ≤ cap ∧ cap ≤ 9223372036854775807 → w.heap[b]? = some (.cells cur e (0, 0)) → cur.size = cap * E.size τ → (∀ i r x, H (p ++ i :: r) = some x → i < n) →
   (∀ i j c, i < n → (E.cells τ (f i))[j]? = some c → TRep E w H (p ++ [i, j]) c (cur.getD (i * E.size τ + j) Go.undef)) → TRep E w H p (.rs none τ n f) (.slice (some (at' b 0)) n cap)
def DRep (E : Env RT den) (F : Frz) (w : World) (H : List Nat → Option (Nat × (Nat × Nat))) (b : Nat) (m : Nat × Nat) (τ : RT) (n p : Nat) (f : Nat → den τ) : Prop :=
 m.1 = n ∧ (n ≤ m.2 ∧ m.2 ≤ 9223372036854775807) ∧ p ≤ n ∧ ∃ cur e, w.heap[b]? = some (.cells cur e (0, 0)) ∧ cur.size = m.2 * E.size τ ∧
  ∀ i j c, i < n → (E.cells τ (f i))[j]? = some c → (i < p → TRep E w H [i, j] c (cur.getD (i * E.size τ + j) Go.undef)) ∧ (p ≤ i → VRep E F w noBet c (cur.getD (i * E.size τ + j) Go.undef))
def Ob.dg : Ob RT den → Bool
 | .deep .. | .gone => true
 | _ => false
structure Hid (E : Env RT den) (ok : Nat → Prop) (F : Frz) (β : Bet) (os : List (Ob RT den)) (w : World) : Prop where
 ok : ∀ o p b m, β.h o p = some (b, m) → ok b
 names : ∀ o p b m, β.h o p = some (b, m) → b < w.heap.size ∧ (∀ off, ¬ F b off) ∧ o < os.length
 real : ∀ o p b m o' m', β.h o p = some (b, m) → β o' = some (b, m') → os[o']? = some .gone
 inj : ∀ o p o' p' b m m', β.h o p = some (b, m) → β.h o' p' = some (b, m') → os[o]? ≠ some .gone → os[o']? ≠ some .gone → o = o' ∧ p = p'
 bound : ∀ o q x, β.h o q = some x → os[o]? = some .gone ∨ ∃ i q' l τ n p f, q = i :: q' ∧ i < p ∧ os[o]? = some (.deep l τ n p f) ∧ ∃ y, β o = some y
 reps : ∀ o l τ n p f, os[o]? = some (.deep l τ n p f) → ∀ b m, β o = some (b, m) → DRep E F w (β.h o) b m τ n p f
structure Was where
 frz : Frz
 lent : Nat → Prop
 bet : Bet
 len : Nat
 giv : Nat → Prop
 ok : ∀ b, lent b → (∃ o m, o < len ∧ bet o = some (b, m)) ∨ (∃ o p m, o < len ∧ bet.h o p = some (b, m)) ∨ giv b
structure Keep (l : Nat → Prop) (B : Nat) (w w' : World) : Prop where
 os : w'.os = w.os
 tape : w'.tape = w.tape
 output : w'.output = w.output
 size : w.heap.size ≤ w'.heap.size
 block : ∀ k, k < B → ¬ l k → w'.heap[k]? = w.heap[k]?
theorem Keep.refl (l : Nat → Prop) (B : Nat) (w : World) : Keep l B w w := ⟨rfl, rfl, rfl, Nat.le_refl _, fun _ _ _ => rfl⟩
theorem Keep.trans {l : Nat → Prop} {B : Nat} {a b c : World} (h : Keep l B a b) (k : Keep l B b c) : Keep l B a c :=
 ⟨k.os.trans h.os, k.tape.trans h.tape, k.output.trans h.output, Nat.le_trans h.size k.size, fun j hj hl => (k.block j hj hl).trans (h.block j hj hl)⟩
theorem Keep.of {l : Nat → Prop} {B : Nat} {a b : World} (h : Below B a b) : Keep l B a b := ⟨h.os, h.tape, h.output, h.size, fun j hj _ => h.block j hj⟩
theorem Keep.toBelow {B : Nat} {a b : World} (h : Keep (fun _ => False) B a b) : Below B a b := ⟨h.os, h.tape, h.output, h.size, fun j hj => h.block j hj id⟩
def Tb (E : Env RT den) (F : Frz) (w : World) : Prop := ∀ g cs, E.tab g = some cs → (∀ o, F g o) ∧ ∃ e x, w.heap[g]? = some (.cells cs e x)
structure Low (E : Env RT den) (F : Frz) (w : World) : Prop where
 lt : ∀ b o, F b o → b < w.heap.size
 tb : Tb E F w
def Tw (E : Env RT den) (F0 : Was) (w0 : World) : Prop := ∀ g cs, E.tab g = some cs → (∀ o, F0.frz g o) ∧ ¬ F0.lent g ∧ ∃ e x, w0.heap[g]? = some (.cells cs e x)
structure Rel (E : Env RT den) (F0 : Was) (w0 : World) (F : Frz) (β : Bet) (s : St RT den) (a : Act) (w : World) : Prop where
 defers : a.defers = []
 size : a.tmps.size = s.slots.length
 slots : ∀ i d, s.slots[i]? = some d → VRep E F w β d (a.tmps.getD i Go.undef)
 objs : ∀ o ob, s.objs[o]? = some ob → ∀ b m, β o = some (b, m) → ORep E F w β b m ob
 names : ∀ o b m, β o = some (b, m) → (w0.heap.size ≤ b ∨ F0.lent b) ∧ b < w.heap.size ∧ (∀ off, ¬ F b off) ∧ o < s.objs.length
 inj : ∀ o o' b m m', β o = some (b, m) → β o' = some (b, m') → o = o'
 below : Keep F0.lent w0.heap.size w0 w
 frz : ∀ b off, F b off → b < w.heap.size
 frz1 : ∀ b off, F0.frz b off → F b off
 frz2 : ∀ b off, F b off → F0.frz b off ∨ w0.heap.size ≤ b ∨ F0.giv b
 place : ∀ o, o < F0.len → β o = F0.bet o ∧ ∃ ob, s.objs[o]? = some ob ∧ ob.isLent = true
 placeH : ∀ o, o < F0.len → β.h o = F0.bet.h o
 hid : Hid E (fun b => w0.heap.size ≤ b ∨ F0.lent b) F β s.objs w
 tab : Tw E F0 w0
theorem Rel.tb {F0 : Was} {w0 : World} {F : Frz} {β : Bet} {s : St RT den} {a : Act} {w : World} (h : Rel E F0 w0 F β s a w) : Tb E F w := fun g cs hg => by
 obtain ⟨k1, k2, e, x, k3⟩ := h.tab g cs hg
 exact ⟨fun o => h.frz1 g o (k1 o), e, x, (h.below.block g (Array.getElem?_eq_some_iff.1 k3).1 k2).trans k3⟩
theorem Rel.low {F0 : Was} {w0 : World} {F : Frz} {β : Bet} {s : St RT den} {a : Act} {w : World} (h : Rel E F0 w0 F β s a w) : Low E F w := ⟨h.frz, h.tb⟩
theorem Low.or {F F' : Frz} {w : World} (h : Low E F w) (h1 : ∀ b o, F b o → F' b o) (h2 : ∀ b o, F' b o → b < w.heap.size) : Low E F' w :=
 ⟨h2, fun g cs hg => by obtain ⟨k1, k2⟩ := h.tb g cs hg; exact ⟨fun o => h1 g o (k1 o), k2⟩⟩
theorem Low.tw {F : Frz} {w : World} (h : Low E F w) {F0 : Was} (hf : F0.frz = F) (hl : ∀ b, F0.lent b → ∀ off, ¬ F b off) : Tw E F0 w :=
 fun g cs hg => by obtain ⟨k1, k2⟩ := h.tb g cs hg; exact ⟨fun o => by rw [hf]; exact k1 o, fun hx => hl g hx 0 (k1 0), k2⟩
theorem TRep.move {w w' : World} {H H' : List Nat → Option (Nat × (Nat × Nat))} {p : List Nat} {d : D RT den} {v : Value} (h : TRep E w H p d v) : ∀ {p' : List Nat}, (∀ q, H' (p' ++ q) = H (p ++ q)) → (∀ q b m, H (p ++ q) = some (b, m) → w'.heap[b]? = w.heap[b]?) → TRep E w' H' p' d v := by
 induction h with
 | sc p d v h1 h2 => intro p' _ _; exact .sc p' d v h1 (h2.sce h1)
 | nul p z τ f a h1 h2 h3 h4 => intro p' hH _; exact .nul p' z τ f a h1 h2 h3 (fun q => by rw [hH]; exact h4 q)
 | row p τ n f cap b cur e h1 h2 h3 h4 h6 h5 ih =>
  intro p' hH hw
  refine .row p' τ n f cap b cur e (by have := hH []; rw [List.append_nil, List.append_nil] at this; rw [this]; exact h1) h2 (by rw [hw [] b _ (by rw [List.append_nil]; exact h1)]; exact h3) h4 (fun i r x hx => h6 i r x (by rw [← hH]; exact hx)) (fun i j c hi hc => ih i j c hi hc (fun q => ?_) (fun q b m hq => hw _ b m (by rw [List.append_assoc] at hq; exact hq)))
  rw [List.append_assoc, List.append_assoc]
  exact hH _
theorem TRep.mono {w w' : World} {H H' : List Nat → Option (Nat × (Nat × Nat))} {p : List Nat} {d : D RT den} {v : Value} (h : TRep E w H p d v) (hH : ∀ q, H' q = H q) (hw : ∀ q b m, H q = some (b, m) → w'.heap[b]? = w.heap[b]?) : TRep E w' H' p d v :=
 h.move (fun q => hH _) (fun q b m hq => hw _ b m hq)
theorem DRep.mono {F F' : Frz} {w w' : World} {H H' : List Nat → Option (Nat × (Nat × Nat))} {b : Nat} {m : Nat × Nat} {τ : RT} {n p : Nat} {f : Nat → den τ} (h : DRep E F w H b m τ n p f) (h1 : ∀ b o, F b o → F' b o) (hk : Keeps F w w') (hb : w'.heap[b]? = w.heap[b]?)
  (hH : ∀ q, H' q = H q) (hw : ∀ q b m, H q = some (b, m) → w'.heap[b]? = w.heap[b]?) : DRep E F' w' H' b m τ n p f := by
 obtain ⟨k1, k2, k0, cur, e, k3, k4, k5⟩ := h
 exact ⟨k1, k2, k0, cur, e, by rw [hb]; exact k3, k4, fun i j c hi hc => ⟨fun hp => ((k5 i j c hi hc).1 hp).mono hH hw, fun hp => ((k5 i j c hi hc).2 hp).mono h1 hk (Bet.le_refl _)⟩⟩
def Bet.has (β : Bet) (b : Nat) : Prop := (∃ o m, β o = some (b, m)) ∨ ∃ o p m, β.h o p = some (b, m)
def Bet.off (β : Bet) (b : Nat) : Prop := ∀ o p m, β.h o p ≠ some (b, m)
theorem Hid.off_new {ok : Nat → Prop} {F : Frz} {β : Bet} {os : List (Ob RT den)} {w : World} (h : Hid E ok F β os w) {b : Nat} (hb : w.heap.size ≤ b) : β.off b := fun o p m hx => by
 have := (h.names o p b m hx).1; omega
theorem Hid.off_real {ok : Nat → Prop} {F : Frz} {β : Bet} {os : List (Ob RT den)} {w : World} (h : Hid E ok F β os w) {b o : Nat} {m : Nat × Nat} (hb : β o = some (b, m)) (hg : os[o]? ≠ some .gone) : β.off b := fun o' p m' hx => hg (h.real o' p b m' o m hx hb)
theorem Hid.step {ok ok' : Nat → Prop} {F F' : Frz} {β β' : Bet} {os os' : List (Ob RT den)} {w w' : World} (h : Hid E ok F β os w) (hok : ∀ b, ok b → ok' b) (h1 : ∀ b o, F b o → F' b o) (h2 : ∀ b o, F' b o → F b o ∨ β.off b) (hk : Keeps F w w') (hsz : w.heap.size ≤ w'.heap.size)
  (hh : β'.h = β.h) (hβ : ∀ o b m, β' o = some (b, m) → (∃ m', β o = some (b, m')) ∨ β.off b) (hsame : ∀ (o : Nat) (ob : Ob RT den), os[o]? = some ob → ob.dg = true → os'[o]? = some ob)
  (hdeep : ∀ o l τ n p f, os'[o]? = some (.deep l τ n p f) → ∀ b m, β' o = some (b, m) → os[o]? = some (.deep l τ n p f) ∧ β o = some (b, m) ∧ w'.heap[b]? = w.heap[b]?)
  (hblk : ∀ o p b m, β.h o p = some (b, m) → w'.heap[b]? = w.heap[b]?) (hlen : os.length ≤ os'.length) (hsome : ∀ (o : Nat) y l τ n p f, os[o]? = some (Ob.deep (den := den) l τ n p f) → β o = some y → ∃ y', β' o = some y' := by intro _ y _ _ _ _ _ _ h; exact ⟨y, h⟩) : Hid E ok' F' β' os' w' := by
 have live : ∀ o q x, β.h o q = some x → os'[o]? ≠ some .gone → os[o]? ≠ some .gone := fun o q x hx hg he => hg (hsame o _ he rfl)
 refine ⟨fun o p b m hb => hok _ (h.ok o p b m (by rw [← hh]; exact hb)), fun o p b m hb => ?_, fun o p b m o' m' hb hb' => ?_, fun o p o' p' b m m' hb hb' hg hg' => ?_, fun o q x hx => ?_, fun o l τ n p f ho b m hb => ?_⟩
 ·rw [hh] at hb
  obtain ⟨n1, n2, n3⟩ := h.names o p b m hb
  refine ⟨by omega, fun off hf => ?_, by omega⟩
  rcases h2 b off hf with h9 | h9
  ·exact n2 off h9
  ·exact h9 o p m hb
 ·rw [hh] at hb
  rcases hβ o' b m' hb' with ⟨m2, h9⟩ | h9
  ·exact hsame o' _ (h.real o p b m o' m2 hb h9) rfl
  ·exact absurd hb (h9 o p m)
 ·rw [hh] at hb hb'
  exact h.inj o p o' p' b m m' hb hb' (live o _ _ hb hg) (live o' _ _ hb' hg')
 ·rw [hh] at hx
  rcases h.bound o q x hx with h9 | ⟨i, q', l, τ, n, p, f, e1, e2, e3⟩
  ·exact .inl (hsame o _ h9 rfl)
  ·obtain ⟨e3, y, e4⟩ := e3
   exact .inr ⟨i, q', l, τ, n, p, f, e1, e2, hsame o _ e3 rfl, hsome o y l τ n p f e3 e4⟩
 ·obtain ⟨k1, k2, k3⟩ := hdeep o l τ n p f ho b m hb
  exact (h.reps o l τ n p f k1 b m k2).mono h1 hk k3 (fun q => by rw [hh]) (fun q b m hx => hblk o q b m hx)
end Go.Proofs.Ytcmfekgdlaffkaa.Vm

