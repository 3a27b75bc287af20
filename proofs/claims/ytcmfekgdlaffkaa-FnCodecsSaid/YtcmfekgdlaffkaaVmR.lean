
/- The value machine: arguments that can be read as data, told. Conditions: none. -/
import Derived.Test.YtcmfekgdlaffkaaVmO
import Derived.Deep.Slices
import Derived.ChangeArms
import Derived.Carry
import Derived.OpenShut
import Derived.ChangeOld
namespace Go.Proofs.Ytcmfekgdlaffkaa.Vm
open Go Go.RowKit Go.Deep
set_option linter.unusedVariables false
set_option linter.unusedSimpArgs false
variable {RT : Type} {den : RT → Type}
def live (w : World) : Frz := fun b _ => b < w.heap.size
def Told (E : Env RT den) (w : World) (cl : List (D RT den)) (cs : List Value) : Prop := cl.length = cs.length ∧ ∀ (j : Nat) c v, cl[j]? = some c → cs[j]? = some v → VRep E (live w) w noBet c v
structure VOpens (E : Env RT den) (P : Program) (t : TypeId) {α : Type} (cl : α → List (D RT den)) (W : α → Prop) : Prop where
 sz : ∀ y, (cl y).length = P.cellsOf t
 op : ∀ {H : Type} {enc : TypeId × Value → H} {w : World} {base : Nat} {spare : Nat → Bool} {held : Bool} {fuel : Nat} {cs : List Value} {x : DataW H × List MemPlace},
  DataW.trod enc P w base spare held fuel t cs = some x → ∃ y, Told E w (cl y) cs ∧ W y
theorem told_one {E : Env RT den} {w : World} {c : D RT den} {v : Value} (h : VRep E (live w) w noBet c v) : Told E w [c] [v] := ⟨rfl, fun j c' v' hc hv => by
 cases j with
 | zero => simp at hc hv; subst hc; subst hv; exact h
 | succ j => simp at hc⟩
theorem VOpens.int {E : Env RT den} {P : Program} {t : TypeId} {q : IntKind} (ht : P.underlying t = some (.int q)) (hc : P.cellsOf t = 1) : VOpens E P t (fun n : Int => [.int q n]) (fun n => (Lit.int q n).wf = true) :=
 ⟨fun _ => hc.symm, fun h => by
  obtain ⟨n, rfl, _, hw⟩ := DataW.trod_int ht h
  exact ⟨n, told_one (.int q n), hw⟩⟩
theorem choose_get {α : Type} (d : α) (n : Nat) (p : Nat → α → Prop) (h : ∀ i, i < n → ∃ y, p i y) : ∃ f : Nat → α, ∀ i, i < n → p i (f i) := by
 classical
 refine ⟨fun i => if hi : i < n then Classical.choose (h i hi) else d, fun i hi => ?_⟩
 simp only [hi, dif_pos]
 exact Classical.choose_spec (h i hi)
theorem VOpens.slice {E : Env RT den} {P : Program} {t e : TypeId} {τ : RT} {W : den τ → Prop} (d : den τ) (ht : P.underlying t = some (.slice e)) (hc : P.cellsOf t = 1) (ho : VOpens E P e (E.cells τ) W) (hsz : E.size τ = P.cellsOf e) (hpos : 0 < P.cellsOf e) :
  VOpens E P t (fun x : Sl (den τ) => [.rs x.z τ x.n x.f]) (fun x => x.n ≤ maxLen ∧ ∀ i, i < x.n → W (x.f i)) :=
 ⟨fun _ => hc.symm, fun {H enc w base spare held fuel cs x} h => by
  rcases open_slice ht h with ⟨rfl, _⟩ | ⟨a, len, cap, m, n, D', Pl, rfl, _, hl, hm, hmm, _, hx⟩
  ·exact ⟨⟨none, 0, fun _ => d⟩, told_one (.rs none τ 0 _ none 0 0 0 (fun _ _ => Go.undef) (by simp) (by simp) (by simp) (by simp) (by simp) (by simp) (by simp) (by simp)), by simp [maxLen], by simp⟩
  ·have hlm : len ≤ m := by rw [hmm]; split <;> omega
   obtain ⟨f, hf⟩ := choose_get d len (fun i y => ∃ cs', w.cells? base (a.add (i * P.cellsOf e)) (P.cellsOf e) = some cs' ∧ Told E w (E.cells τ y) cs' ∧ W y) (fun i hi => by
    obtain ⟨cs', h1, h2⟩ := hx i (by omega)
    obtain ⟨y, hy, hw⟩ := ho.op h2
    exact ⟨y, cs', h1, hy, hw⟩)
   have cell : ∀ i j, i < len → j < P.cellsOf e → ∃ v, w.cell? (a.add (i * P.cellsOf e + j)) = some v ∧ ∀ c, (E.cells τ (f i))[j]? = some c → VRep E (live w) w noBet c v := by
    intro i j hi hj
    obtain ⟨cs', h1, h2, _⟩ := hf i hi
    obtain ⟨_, h3, h4⟩ := World.cells?_some h1
    have hj' : j < cs'.length := by rw [h3]; exact hj
    refine ⟨cs'[j], ?_, fun c hc => h2.2 j c _ hc (List.getElem?_eq_getElem hj')⟩
    rw [← Go.Deep.add_add, h4 j hj]
    exact List.getElem?_eq_getElem hj'
   have spot : len ≠ 0 → a = at' a.block a.off := by
    intro hn
    obtain ⟨v, hv, _⟩ := cell 0 0 (by omega) hpos
    have e0 : a.add (0 * P.cellsOf e + 0) = a := by simp [Addr.add]
    rw [e0] at hv
    obtain ⟨ab, ao, asp⟩ := a
    cases asp with
    | none => rfl
    | some q =>
     unfold World.cell? at hv
     dsimp only at hv
     split at hv
     ·simp at hv
     ·simp at hv
   have adr : ∀ i j, i < len → j < P.cellsOf e → a.add (i * P.cellsOf e + j) = at' a.block (a.off + i * E.size τ + j) := by
    intro i j hi hj
    rw [spot (by omega), at'_add, hsz]
    simp only [at', Nat.add_assoc]
   refine ⟨⟨none, len, f⟩, told_one (.rs none τ len f (some a) cap a.block a.off (fun i j => (w.cell? (at' a.block (a.off + i * E.size τ + j))).getD Go.undef) (fun hn => by rw [← spot hn]) (by simp) (by simp) ?_ (by omega) (by simp) (fun i j c hi hc => ?_) (fun i j hi hj => ?_)), (by show len ≤ maxLen; omega), fun i hi => (hf i hi).choose_spec.2.2⟩
   ·intro hn p hp
    cases hp
    rw [spot hn]; rfl
   ·have hj : j < P.cellsOf e := by rw [← ho.sz (f i)]; exact (List.getElem?_eq_some_iff.1 hc).1
    obtain ⟨v, hv, hr⟩ := cell i j hi hj
    rw [adr i j hi hj] at hv
    rw [hv]
    exact hr c hc
   ·rw [hsz] at hj
    obtain ⟨v, hv, hr⟩ := cell i j hi hj
    rw [adr i j hi hj] at hv
    exact ⟨World.block_lt_of_cell? w (at' a.block (a.off + i * E.size τ + j)) hv, by rw [hv]; rfl⟩⟩
theorem vopen_row {E : Env RT den} {P : Program} {t e : TypeId} {α : Type} {c : α → D RT den} {W : α → Prop} (ho : VOpens E P t (fun y => [c y]) W) (ht : P.underlying t = some (.slice e)) {H : Type} {enc : TypeId × Value → H} {w : World} {base b0 : Nat} {r : Reach} {spare : Nat → Bool} {held : Bool} {v : Value} {d : DataW H} {ps : List MemPlace}
  (hval : Value.okWide P w r b0 t v) (hd : DataW.Trod enc P w base spare held t v d ps) : ∃ y, VRep E (live w) w noBet (c y) v ∧ W y := by
 obtain ⟨a, len, cap, rfl⟩ := Go.WideShapes.okWide_slice ht hval
 obtain ⟨fuel, hf⟩ := hd
 obtain ⟨y, hy, hw⟩ := ho.op hf
 exact ⟨y, hy.2 0 _ _ rfl rfl, hw⟩
end Go.Proofs.Ytcmfekgdlaffkaa.Vm

