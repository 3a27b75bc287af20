/- Arguments of any kind (whole numbers, bools, strings, slices, structs, nested in each other) opened to the values of the printed functions: a lemma a shape. Conditions: none. -/
import Derived.Test.YtfmfjggghbgfaaaWWords
import Derived.Deep.Slices
import Derived.ChangeArms
import Derived.Carry
import Derived.WalkKit
import Derived.ProofKit
import Derived.OpenShut
import Derived.ChangeOld
import Derived.Below
namespace Go.Proofs.Ytfmfjggghbgfaaa.RKit
open Go.RowKit Go.Proofs.YtfmfjggghbgfaaaW.PrintWords Go.Deep
set_option linter.unusedVariables false

/-- Type t's cells, wherever they can be read as data, are those of a value of the kind k that meets W. -/
structure Opens (P : Program) (t : TypeId) {α : Type} (k : Kd α) (W : α → Prop) : Prop where
  sz : P.cellsOf t = k.sz
  op : ∀ {H : Type} {enc : TypeId × Value → H} {w : World} {base : Nat} {spare : Nat → Bool} {held : Bool} {fuel : Nat} {cs : List Value} {x : DataW H × List MemPlace},
    DataW.trod enc P w base spare held fuel t cs = some x → ∃ y, k.K w y cs ∧ W y

theorem Opens.int {P : Program} {t : TypeId} {q : IntKind} (ht : P.underlying t = some (.int q)) (hc : P.cellsOf t = 1) : Opens P t (Kd.int q) (fun n => (Lit.int q n).wf = true) :=
  ⟨hc, fun h => by
    obtain ⟨n, rfl, _, hw⟩ := DataW.trod_int ht h
    exact ⟨n, rfl, hw⟩⟩

theorem Opens.bool {P : Program} {t : TypeId} (ht : P.underlying t = some .bool) (hc : P.cellsOf t = 1) : Opens P t Kd.bool (fun _ => True) :=
  ⟨hc, fun h => by
    obtain ⟨b, rfl, _⟩ := DataW.trod_bool ht h
    exact ⟨b, rfl, trivial⟩⟩

theorem Opens.mono {P : Program} {t : TypeId} {α : Type} {k : Kd α} {W W' : α → Prop} (h : Opens P t k W) (hw : ∀ y, W y → W' y) : Opens P t k W' :=
  ⟨h.sz, fun ht => by
    obtain ⟨y, hy, hW⟩ := h.op ht
    exact ⟨y, hy, hw y hW⟩⟩

theorem list_of_get {α : Type} (n : Nat) (p : Nat → α → Prop) (h : ∀ i, i < n → ∃ y, p i y) : ∃ l : List α, l.length = n ∧ ∀ i y, l[i]? = some y → p i y := by
  induction n with
  | zero => exact ⟨[], rfl, fun i y hi => by simp at hi⟩
  | succ n ih =>
    obtain ⟨l, hl, hp⟩ := ih (fun i hi => h i (by omega))
    obtain ⟨y, hy⟩ := h n (by omega)
    refine ⟨l ++ [y], by simp [hl], fun i z hz => ?_⟩
    by_cases e : i < n
    · rw [List.getElem?_append_left (by omega)] at hz
      exact hp i z hz
    · rw [List.getElem?_append_right (by omega)] at hz
      by_cases e2 : i = n
      · subst e2
        simp [hl] at hz
        exact hz ▸ hy
      · rw [List.getElem?_eq_none (by simp; omega)] at hz
        cases hz

theorem Opens.slice {P : Program} {t e : TypeId} {α : Type} {k : Kd α} {W : α → Prop} (ht : P.underlying t = some (.slice e)) (hc : P.cellsOf t = 1) (ho : Opens P e k W) :
    Opens P t (Kd.slice e k) (fun xs => xs.length ≤ maxLen ∧ ∀ x ∈ xs, W x) :=
  ⟨hc, fun {H enc w base spare held fuel cs x} h => by
    rcases open_slice ht h with ⟨rfl, _⟩ | ⟨a, len, cap, m, n, D, Pl, rfl, _, hl, hm, hmm, _, hx⟩
    · exact ⟨[], ⟨none, 0, rfl, Nat.le_refl _, by simp, by simp, fun hp => absurd hp (by simp)⟩, by simp [maxLen], by simp⟩
    · have hlm : len ≤ m := by rw [hmm]; split <;> omega
      obtain ⟨l, hll, hget⟩ := list_of_get len (fun i y => ∃ cs', w.cells? base (a.add (i * P.cellsOf e)) (P.cellsOf e) = some cs' ∧ k.K w y cs' ∧ W y) (fun i hi => by
        obtain ⟨cs', h1, h2⟩ := hx i (by omega)
        obtain ⟨y, hy, hw⟩ := ho.op h2
        exact ⟨y, cs', h1, hy, hw⟩)
      subst hll
      refine ⟨l, ⟨some a, cap, rfl, by omega, rfl, by unfold maxLen at hm; omega, fun hp => ⟨a, rfl, fun j p hj => ?_⟩⟩, by omega, fun x hx' => ?_⟩
      · obtain ⟨cs', h1, h2, _⟩ := hget j p hj
        obtain ⟨_, h3, h4⟩ := World.cells?_some h1
        refine ⟨cs', by rw [h3, ho.sz], h2, fun i u hu => ?_⟩
        have hi : i < cs'.length := (List.getElem?_eq_some_iff.1 hu).1
        rw [← ho.sz, ← Go.Deep.add_add, h4 i (by omega)]
        exact hu
      · obtain ⟨i, hi, rfl⟩ := List.getElem_of_mem hx'
        obtain ⟨_, _, _, hw⟩ := hget i _ (List.getElem?_eq_getElem hi)
        exact hw⟩

/-- Fields in line, from cell o on. -/
def FieldsAt (P : Program) (o : Nat) (ts : List (Nat × TypeId)) {α : Type} (k : Kd α) (W : α → Prop) : Prop :=
  ∀ {H : Type} {enc : TypeId × Value → H} {w : World} {base : Nat} {spare : Nat → Bool} {held : Bool} {fuel : Nat} (cs : List Value), cs.length = o + k.sz →
    (∀ p ∈ ts, ∃ x, DataW.trod enc P w base spare held fuel p.2 ((cs.drop p.1).take (P.cellsOf p.2)) = some x) → ∃ y, k.K w y (cs.drop o) ∧ W y

theorem FieldsAt.last {P : Program} {o : Nat} {t : TypeId} {α : Type} {k : Kd α} {W : α → Prop} (h : Opens P t k W) : FieldsAt P o [(o, t)] k W := by
  intro H enc w base spare held fuel cs hl hf
  obtain ⟨x, hx⟩ := hf (o, t) (by simp)
  obtain ⟨y, hy, hw⟩ := h.op hx
  refine ⟨y, ?_, hw⟩
  rwa [List.take_of_length_le (by rw [h.sz, List.length_drop]; omega)] at hy

theorem FieldsAt.cons {P : Program} {o : Nat} {t : TypeId} {ts : List (Nat × TypeId)} {α β : Type} {k : Kd α} {l : Kd β} {W : α → Prop} {V : β → Prop} (h : Opens P t k W) (hr : FieldsAt P (o + k.sz) ts l V) :
    FieldsAt P o ((o, t) :: ts) (Kd.pair k l) (fun x => W x.1 ∧ V x.2) := by
  intro H enc w base spare held fuel cs hl hf
  have hl' : cs.length = o + (k.sz + l.sz) := hl
  obtain ⟨x, hx⟩ := hf (o, t) (by simp)
  obtain ⟨y, hy, hw⟩ := h.op hx
  obtain ⟨z, hz, hv⟩ := hr (enc := enc) (w := w) (base := base) (spare := spare) (held := held) (fuel := fuel) cs (by omega) (fun p hp => hf p (List.mem_cons_of_mem _ hp))
  refine ⟨(y, z), ⟨_, _, ?_, hy, hz⟩, hw, hv⟩
  rw [h.sz, ← List.drop_drop, List.take_append_drop]

theorem Opens.struct {P : Program} {t : TypeId} {fs : Array Field} {ts : List (Nat × TypeId)} {α β : Type} {k : Kd α} {W : α → Prop} (f : β → α) (g : α → β) (hfg : ∀ a, f (g a) = a) (ht : P.underlying t = some (.struct fs)) (hts : fs.toList.map (fun f => (f.offset, f.type)) = ts)
    (hc : P.cellsOf t = k.sz) (hF : FieldsAt P 0 ts k W) : Opens P t (Kd.iso k f) (fun y => W (f y)) :=
  ⟨hc, fun {H enc w base spare held fuel cs x} h => by
    obtain ⟨xs, n, rfl, _, hlen, hxl, hf⟩ := DataW.trod_struct ht h
    obtain ⟨y, hy, hw⟩ := hF (enc := enc) (w := w) (base := base) (spare := spare) (held := held) (fuel := n) cs (by rw [hlen, hc]; omega) (fun p hp => by
      rw [← hts] at hp
      obtain ⟨fl, hfl, rfl⟩ := List.mem_map.1 hp
      obtain ⟨i, hi, he⟩ := List.getElem_of_mem hfl
      have hi' : i < fs.size := by simpa using hi
      have h1 := hf i fl (by rw [Array.getElem?_eq_getElem hi']; simpa using he)
      exact ⟨_, h1.trans (List.getElem?_eq_getElem (by omega))⟩)
    refine ⟨g y, ?_, ?_⟩
    · show k.K w (f (g y)) cs
      rw [hfg]
      simpa using hy
    · show W (f (g y))
      rw [hfg]
      exact hw⟩

/-- An argument of a struct type: its cells. -/
theorem open_agg {P : Program} {t : TypeId} {fs : Array Field} {α : Type} {k : Kd α} {W : α → Prop} (ho : Opens P t k W) (ht : P.underlying t = some (.struct fs)) {H : Type} {enc : TypeId × Value → H} {w : World} {base b0 : Nat} {r : Reach} {spare : Nat → Bool} {held : Bool} {v : Value} {d : DataW H} {ps : List MemPlace}
    (hval : Value.okWide P w r b0 t v) (hd : DataW.Trod enc P w base spare held t v d ps) : ∃ cs y, v = .agg cs ∧ k.K w y cs.toList ∧ W y := by
  obtain ⟨cs, rfl, _⟩ := Go.WideShapes.okWide_struct ht hval
  obtain ⟨fuel, hf⟩ := hd
  obtain ⟨y, hy, hw⟩ := ho.op hf
  exact ⟨cs, y, rfl, hy, hw⟩

/-- An argument of a slice type. -/
theorem open_row {P : Program} {t e : TypeId} {α : Type} {k : Kd α} {W : List α → Prop} (ho : Opens P t (Kd.slice e k) W) (ht : P.underlying t = some (.slice e)) {H : Type} {enc : TypeId × Value → H} {w : World} {base b0 : Nat} {r : Reach} {spare : Nat → Bool} {held : Bool} {v : Value} {d : DataW H} {ps : List MemPlace}
    (hval : Value.okWide P w r b0 t v) (hd : DataW.Trod enc P w base spare held t v d ps) : ∃ A c xs, v = .slice A xs.length c ∧ xs.length ≤ c ∧ k.C w A xs.length xs ∧ W xs := by
  obtain ⟨a, len, cap, rfl⟩ := Go.WideShapes.okWide_slice ht hval
  obtain ⟨fuel, hf⟩ := hd
  obtain ⟨xs, ⟨A, c, he, hl, hr⟩, hw⟩ := ho.op hf
  have he' : [Value.slice a len cap] = [.slice A xs.length c] := he
  exact ⟨A, c, xs, (List.cons.inj he').1, hl, hr, hw⟩

end Go.Proofs.Ytfmfjggghbgfaaa.RKit
