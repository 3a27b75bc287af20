
/- The value machine: arguments that can be read as data, told. Conditions: none. -/
import Derived.Test.YtcmfekgdlaffkaaGreatDoorVmO
import Derived.Deep.Slices
import Derived.ChangeArms
import Derived.Carry
import Derived.OpenShut
import Derived.ChangeOld
namespace Go.Proofs.YtcmfekgdlaffkaaGreatDoor.Vm
open Go Go.RowKit Go.Deep
set_option linter.unusedVariables false
set_option linter.unusedSimpArgs false
variable {RT : Type} {den : RT → Type}
def live (w : World) : Frz := fun b _ => b < w.heap.size
def Told (E : Env RT den) (w : World) (cl : List (D RT den)) (cs : List Value) : Prop := cl.length = cs.length ∧ ∀ (j : Nat) c v, cl[j]? = some c → cs[j]? = some v → VRep E (live w) w noBet c v
structure VOpens (E : Env RT den) (P : Program) (t : TypeId) {α : Type} (cl : α → List (D RT den)) (W : α → Prop) : Prop where
  sz : ∀ y, (cl y).length = P.cellsOf t
  op : ∀ {H : Type} {enc : TypeId × Value → H} {w : World} {base : Nat} {spare : Nat → Bool} {held : Bool} {fuel : Nat} {cs : List Value} {x : DataW H × List MemPlace},
    DataW.trod enc P w base spare held fuel t cs = some x → ∃ y, Told E w (cl y) cs ∧ W y
theorem told_one {E : Env RT den} {w : World} {c : D RT den} {v : Value} (h : VRep E (live w) w noBet c v) : Told E w [c] [v] := ⟨rfl, fun j c' v' hc hv => by
  cases j with
  | zero => simp at hc hv; subst hc; subst hv; exact h
  | succ j => simp at hc⟩
theorem VOpens.int {E : Env RT den} {P : Program} {t : TypeId} {q : IntKind} (ht : P.underlying t = some (.int q)) (hc : P.cellsOf t = 1) : VOpens E P t (fun n : Int => [.int q n]) (fun n => (Lit.int q n).wf = true) :=
  ⟨fun _ => hc.symm, fun h => by
    obtain ⟨n, rfl, _, hw⟩ := DataW.trod_int ht h
    exact ⟨n, told_one (.int q n), hw⟩⟩
theorem VOpens.bool {E : Env RT den} {P : Program} {t : TypeId} (ht : P.underlying t = some .bool) (hc : P.cellsOf t = 1) : VOpens E P t (fun b : Bool => [.bool b]) (fun _ => True) :=
  ⟨fun _ => hc.symm, fun h => by
    obtain ⟨b, rfl, _⟩ := DataW.trod_bool ht h
    exact ⟨b, told_one (.bool b), trivial⟩⟩
theorem choose_get {α : Type} (d : α) (n : Nat) (p : Nat → α → Prop) (h : ∀ i, i < n → ∃ y, p i y) : ∃ f : Nat → α, ∀ i, i < n → p i (f i) := by
  classical
  refine ⟨fun i => if hi : i < n then Classical.choose (h i hi) else d, fun i hi => ?_⟩
  simp only [hi, dif_pos]
  exact Classical.choose_spec (h i hi)
theorem VOpens.slice {E : Env RT den} {P : Program} {t e : TypeId} {τ : RT} {W : den τ → Prop} (d : den τ) (ht : P.underlying t = some (.slice e)) (hc : P.cellsOf t = 1) (ho : VOpens E P e (E.cells τ) W) (hsz : E.size τ = P.cellsOf e) (hpos : 0 < P.cellsOf e) :
    VOpens E P t (fun x : Sl (den τ) => [.rs x.z τ x.n x.f]) (fun x => x.n ≤ maxLen ∧ ∀ i, i < x.n → W (x.f i)) :=
  ⟨fun _ => hc.symm, fun {H enc w base spare held fuel cs x} h => by
    rcases open_slice ht h with ⟨rfl, _⟩ | ⟨a, len, cap, m, n, D', Pl, rfl, _, hl, hm, hmm, _, hx⟩
    · exact ⟨⟨none, 0, fun _ => d⟩, told_one (.rs none τ 0 _ none 0 0 0 (fun _ _ => Go.undef) (by simp) (by simp) (by simp) (by simp) (by simp) (by simp) (by simp) (by simp)), by simp [maxLen], by simp⟩
    · have hlm : len ≤ m := by rw [hmm]; split <;> omega
      obtain ⟨f, hf⟩ := choose_get d len (fun i y => ∃ cs', w.cells? base (a.add (i * P.cellsOf e)) (P.cellsOf e) = some cs' ∧ Told E w (E.cells τ y) cs' ∧ W y) (fun i hi => by
        obtain ⟨cs', h1, h2⟩ := hx i (by omega)
        obtain ⟨y, hy, hw⟩ := ho.op h2
        exact ⟨y, cs', h1, hy, hw⟩)
      have cell : ∀ i j, i < len → j < P.cellsOf e → ∃ v, w.cell? (a.add (i * P.cellsOf e + j)) = some v ∧ ∀ c, (E.cells τ (f i))[j]? = some c → VRep E (live w) w noBet c v := by
        intro i j hi hj
        obtain ⟨cs', h1, h2, _⟩ := hf i hi
        obtain ⟨_, h3, h4⟩ := World.cells?_some h1
        have hj' : j < cs'.length := by rw [h3]; exact hj
        refine ⟨cs'[j], ?_, fun c hc => h2.2 j c _ hc (List.getElem?_eq_getElem hj')⟩
        rw [← Go.Deep.add_add, h4 j hj]
        exact List.getElem?_eq_getElem hj'
      have spot : len ≠ 0 → a = at' a.block a.off := by
        intro hn
        obtain ⟨v, hv, _⟩ := cell 0 0 (by omega) hpos
        have e0 : a.add (0 * P.cellsOf e + 0) = a := by simp [Addr.add]
        rw [e0] at hv
        obtain ⟨ab, ao, asp⟩ := a
        cases asp with
        | none => rfl
        | some q =>
          unfold World.cell? at hv
          dsimp only at hv
          split at hv
          · simp at hv
          · simp at hv
      have adr : ∀ i j, i < len → j < P.cellsOf e → a.add (i * P.cellsOf e + j) = at' a.block (a.off + i * E.size τ + j) := by
        intro i j hi hj
        rw [spot (by omega), at'_add, hsz]
        simp only [at', Nat.add_assoc]
      refine ⟨⟨none, len, f⟩, told_one (.rs none τ len f (some a) cap a.block a.off (fun i j => (w.cell? (at' a.block (a.off + i * E.size τ + j))).getD Go.undef) (fun hn => by rw [← spot hn]) (by simp) (by simp) ?_ (by omega) (by simp) (fun i j c hi hc => ?_) (fun i j hi hj => ?_)), (by show len ≤ maxLen; omega), fun i hi => (hf i hi).choose_spec.2.2⟩
      · intro hn p hp
        cases hp
        rw [spot hn]; rfl
      · have hj : j < P.cellsOf e := by rw [← ho.sz (f i)]; exact (List.getElem?_eq_some_iff.1 hc).1
        obtain ⟨v, hv, hr⟩ := cell i j hi hj
        rw [adr i j hi hj] at hv
        rw [hv]
        exact hr c hc
      · rw [hsz] at hj
        obtain ⟨v, hv, hr⟩ := cell i j hi hj
        rw [adr i j hi hj] at hv
        exact ⟨World.block_lt_of_cell? w (at' a.block (a.off + i * E.size τ + j)) hv, by rw [hv]; rfl⟩⟩
def VFields (E : Env RT den) (P : Program) (o : Nat) (ts : List (Nat × TypeId)) {α : Type} (cl : α → List (D RT den)) (W : α → Prop) : Prop :=
  ∀ {H : Type} {enc : TypeId × Value → H} {w : World} {base : Nat} {spare : Nat → Bool} {held : Bool} {fuel : Nat} (cs : List Value), (∀ y, cs.length = o + (cl y).length) →
    (∀ p ∈ ts, ∃ x, DataW.trod enc P w base spare held fuel p.2 ((cs.drop p.1).take (P.cellsOf p.2)) = some x) → ∃ y, Told E w (cl y) (cs.drop o) ∧ W y
theorem Told.append {E : Env RT den} {w : World} {a b : List (D RT den)} {cs : List Value} (h1 : Told E w a (cs.take a.length)) (h2 : Told E w b (cs.drop a.length)) (hl : a.length ≤ cs.length) : Told E w (a ++ b) cs := by
  refine ⟨?_, fun j c v hc hv => ?_⟩
  · have := h2.1
    rw [List.length_drop] at this
    rw [List.length_append]; omega
  · rw [List.getElem?_append] at hc
    split at hc
    · rename_i hj
      exact h1.2 j c v hc (by rw [List.getElem?_take, if_pos hj]; exact hv)
    · rename_i hj
      exact h2.2 _ c v hc (by rw [List.getElem?_drop, show a.length + (j - a.length) = j by omega]; exact hv)
theorem VFields.last {E : Env RT den} {P : Program} {o : Nat} {t : TypeId} {α : Type} {cl : α → List (D RT den)} {W : α → Prop} (h : VOpens E P t cl W) (d : α) : VFields E P o [(o, t)] cl W := by
  intro H enc w base spare held fuel cs hl hf
  obtain ⟨x, hx⟩ := hf (o, t) (by simp)
  obtain ⟨y, hy, hw⟩ := h.op hx
  refine ⟨y, ?_, hw⟩
  have := hl y
  rwa [List.take_of_length_le (by rw [← h.sz y, List.length_drop]; omega)] at hy
theorem VFields.cons {E : Env RT den} {P : Program} {o : Nat} {t : TypeId} {ts : List (Nat × TypeId)} {α β : Type} {cl : α → List (D RT den)} {cm : β → List (D RT den)} {W : α → Prop} {V : β → Prop} (n : Nat) (hn : P.cellsOf t = n) (dA : α) (dB : β) (h : VOpens E P t cl W) (hr : VFields E P (o + n) ts cm V) (hcm : ∀ y y', (cm y).length = (cm y').length) :
    VFields E P o ((o, t) :: ts) (fun x : α × β => cl x.1 ++ cm x.2) (fun x => W x.1 ∧ V x.2) := by
  intro H enc w base spare held fuel cs hl hf
  obtain ⟨x, hx⟩ := hf (o, t) (by simp)
  obtain ⟨y, hy, hw⟩ := h.op hx
  obtain ⟨z, hz, hv⟩ := hr (enc := enc) (w := w) (base := base) (spare := spare) (held := held) (fuel := fuel) cs (fun b => by
    have := hl (dA, b)
    simp only [List.length_append, h.sz, hn] at this
    omega) (fun p hp => hf p (List.mem_cons_of_mem _ hp))
  have hlen := hl (y, z)
  simp only [List.length_append, h.sz, hn] at hlen
  refine ⟨(y, z), Told.append (by rw [h.sz y]; exact hy) (by rw [h.sz y, hn, List.drop_drop]; exact hz) (by rw [h.sz y, hn, List.length_drop]; omega), hw, hv⟩
theorem VOpens.struct {E : Env RT den} {P : Program} {t : TypeId} {fs : Array Field} {ts : List (Nat × TypeId)} {α β : Type} {cl : β → List (D RT den)} {cm : α → List (D RT den)} {W : α → Prop} {V : β → Prop} (g : α → β) (f : β → α) (hfg : ∀ a, f (g a) = a) (hcl : ∀ a, cl (g a) = cm a) (hsz : ∀ y, (cl y).length = P.cellsOf t) (ht : P.underlying t = some (.struct fs)) (hts : fs.toList.map (fun f => (f.offset, f.type)) = ts)
    (hF : VFields E P 0 ts cm W) (hV : ∀ y, W (f y) → V y) : VOpens E P t cl V :=
  ⟨hsz, fun {H enc w base spare held fuel cs x} h => by
    obtain ⟨xs, n, rfl, _, hlen, hxl, hf⟩ := DataW.trod_struct ht h
    obtain ⟨y, hy, hw⟩ := hF (enc := enc) (w := w) (base := base) (spare := spare) (held := held) (fuel := n) cs (fun y => by rw [hlen, ← hcl, hsz]; omega) (fun p hp => by
      rw [← hts] at hp
      obtain ⟨fl, hfl, rfl⟩ := List.mem_map.1 hp
      obtain ⟨i, hi, he⟩ := List.getElem_of_mem hfl
      have hi' : i < fs.size := by simpa using hi
      have h1 := hf i fl (by rw [Array.getElem?_eq_getElem hi']; simpa using he)
      exact ⟨_, h1.trans (List.getElem?_eq_getElem (by omega))⟩)
    exact ⟨g y, by rw [hcl]; simpa using hy, hV _ (by rw [hfg]; exact hw)⟩⟩
theorem vopen_agg {E : Env RT den} {P : Program} {t : TypeId} {fs : Array Field} {α : Type} {cl : α → List (D RT den)} {W : α → Prop} (ho : VOpens E P t cl W) (ht : P.underlying t = some (.struct fs)) {H : Type} {enc : TypeId × Value → H} {w : World} {base b0 : Nat} {r : Reach} {spare : Nat → Bool} {held : Bool} {v : Value} {d : DataW H} {ps : List MemPlace}
    (hval : Value.okWide P w r b0 t v) (hd : DataW.Trod enc P w base spare held t v d ps) : ∃ y, VRep E (live w) w noBet (.agg (cl y)) v ∧ W y := by
  obtain ⟨cs, rfl, _⟩ := Go.WideShapes.okWide_struct ht hval
  obtain ⟨fuel, hf⟩ := hd
  obtain ⟨y, hy, hw⟩ := ho.op hf
  have h2 : (cl y).length = cs.size := by
    have := hy.1
    rw [Array.length_toList] at this
    exact this
  refine ⟨y, .agg _ _ h2 (fun j c hc => ?_), hw⟩
  have hj : j < cs.size := by
    have := (List.getElem?_eq_some_iff.1 hc).1
    omega
  have e : cs.toList[j]? = some (cs.getD j Go.undef) := by simp [Array.getD, hj]
  exact hy.2 j c _ hc e
end Go.Proofs.YtcmfekgdlaffkaaGreatDoor.Vm
