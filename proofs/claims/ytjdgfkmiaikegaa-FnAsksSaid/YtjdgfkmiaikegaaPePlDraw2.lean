/- Plain laws of logs that are drawn: each draw ends, and within its bounds. Conditions: none. -/
import Derived.Test.YtjdgfkmiaikegaaPePlMark
import Derived.Test.YtjdgfkmiaikegaaPePlDraw
namespace Go.Proofs.Ytjdgfkmiaikegaa.Pe
open Go Go.RowKit Go.Proofs Vm
set_option linter.unusedVariables false
set_option linter.unusedSimpArgs false
set_option maxRecDepth 100000
def Tot {α : Type} (P : α → Prop) (x : Option α) : Prop := ∃ y, x = some y ∧ P y
theorem tot_some {α : Type} {P : α → Prop} {y : α} (h : P y) : Tot P (some y) := ⟨y, rfl, h⟩
theorem tot_bif {α : Type} {P : α → Prop} {c : Bool} {x y : Option α} (hx : c = true → Tot P x) (hy : c = false → Tot P y) : Tot P (bif c then x else y) := by
  cases c
  · exact hy rfl
  · exact hx rfl
theorem tot_chk {α : Type} {P : α → Prop} {c : Bool} {k : Unit → Option α} (hc : c = true) (h : Tot P (k ())) : Tot P ((bif c then some () else none : Option Unit).bind k) := by
  subst hc; exact h
theorem tot_bind {α β : Type} {P : α → Prop} {Q : β → Prop} {x : Option β} {k : β → Option α} (hx : Tot Q x) (h : ∀ y, Q y → Tot P (k y)) : Tot P (x.bind k) := by
  obtain ⟨y, rfl, hq⟩ := hx
  exact h y hq
theorem tot_mono {α : Type} {P Q : α → Prop} {x : Option α} (hx : Tot P x) (h : ∀ y, P y → Q y) : Tot Q x := by
  obtain ⟨y, e, hp⟩ := hx
  exact ⟨y, e, h y hp⟩
theorem tot_next {α : Type} {P : α → Prop} {fu : Nat} {b : Sl Int} {a n : Int} {k : Int × Sl Int × Int → Option α} (hb : Src b) (h0 : 0 ≤ a) (h1 : a ≤ 1000000000) (h : ∀ v, 0 ≤ v → (1 ≤ n → v < n) → Tot P (k (v, b, a + 1))) : Tot P ((F_spec_l1Next_M fu n b a).bind k) := by
  obtain ⟨v, e, v0, v1, _⟩ := d_Next fu n hb h0 h1
  rw [e]
  exact h v v0 v1
theorem tot_chance {α : Type} {P : α → Prop} {fu : Nat} {b : Sl Int} {a n : Int} {k : Bool × Sl Int × Int → Option α} (hb : Src b) (h0 : 0 ≤ a) (h1 : a ≤ 1000000000) (h : ∀ v, Tot P (k (v, b, a + 1))) : Tot P ((F_spec_l1Chance_M fu n b a).bind k) := by
  obtain ⟨v, e⟩ := d_Chance fu n hb h0 h1
  rw [e]
  exact h v
theorem tot_pick {α : Type} {P : α → Prop} {fu : Nat} {b l : Sl Int} {a : Int} {k : Int × Sl Int × Int → Option α} (hl : 1 ≤ l.n) (hb : Src b) (h0 : 0 ≤ a) (h1 : a ≤ 1000000000) (h : ∀ i, i < l.n → Tot P (k (l.f i, b, a + 1))) : Tot P ((F_spec_l1Pick_M fu l b a).bind k) := by
  obtain ⟨i, hi, e⟩ := d_Pick fu hl hb h0 h1
  rw [e]
  exact h i hi
theorem tot_needs {α : Type} {P : α → Prop} {fu : Nat} {n : Int} {k : Bool × Bool × Bool × Bool → Option α} (h : ∀ v, Tot P (k v)) : Tot P ((F_spec_l5Needs fu n).bind k) := by
  obtain ⟨v, e⟩ := p_l5Needs fu n
  rw [e]
  exact h v
def CmdP (b : Sl Int) (a m : Int) (y : Int × Int × Int × Int × Int × Int × Sl Int × Int) : Prop := y.2.2.2.2.2.2.1 = b ∧ a ≤ y.2.2.2.2.2.2.2 ∧ y.2.2.2.2.2.2.2 ≤ a + m
theorem d_l5Cmd (fu : Nat) {b : Sl Int} {a : Int} (hb : Src b) (h0 : 0 ≤ a) (h1 : a ≤ 900000000) : Tot (CmdP b a 20) (F_spec_l5Cmd_M fu b a) := by
  unfold F_spec_l5Cmd_M
  refine tot_pick (Nat.le_of_ble_eq_true rfl) hb h0 (by omega) (fun i _ => ?_)
  refine tot_next hb (by dsimp only; omega) (by dsimp only; omega) (fun v _ _ => ?_)
  refine tot_next hb (by dsimp only; omega) (by dsimp only; omega) (fun v _ _ => ?_)
  refine tot_pick (Nat.le_of_ble_eq_true rfl) hb (by dsimp only; omega) (by dsimp only; omega) (fun i _ => ?_)
  dsimp only
  generalize [1, 1, 2, 3, 4, 5, 6, 7, 7, 7, 8, 9].getD _ _ = kd
  repeat' first
    | refine tot_some ⟨rfl, ?_, ?_⟩ <;> (dsimp only; omega)
    | refine tot_bif (fun _ => ?_) (fun _ => ?_)
    | (refine tot_needs (fun v => ?_); try dsimp only)
    | (refine tot_chance hb (by omega) (by omega) (fun v => ?_); try dsimp only)
    | (refine tot_next hb (by omega) (by omega) (fun v _ _ => ?_); try dsimp only)
theorem d_l5BentCmd (fu : Nat) {b : Sl Int} {a : Int} (hb : Src b) (h0 : 0 ≤ a) (h1 : a ≤ 800000000) : Tot (CmdP b a 30) (F_spec_l5BentCmd_M fu b a) := by
  unfold F_spec_l5BentCmd_M
  refine tot_bind (d_l5Cmd fu hb h0 (by omega)) (fun y hy => ?_)
  obtain ⟨e, k1, k2⟩ := hy
  obtain ⟨y1, y2, y3, y4, y5, y6, b', a'⟩ := y
  dsimp only at e k1 k2 ⊢
  subst e
  refine tot_next hb (by omega) (by omega) (fun v _ _ => ?_)
  dsimp only
  repeat' first
    | refine tot_some ⟨rfl, ?_, ?_⟩ <;> (dsimp only; omega)
    | refine tot_bif (fun _ => ?_) (fun _ => ?_)
    | (refine tot_pick (Nat.le_of_ble_eq_true rfl) hb (by omega) (by omega) (fun i _ => ?_); try dsimp only)
    | (refine tot_next hb (by omega) (by omega) (fun v _ _ => ?_); try dsimp only)
theorem d_l7Entry (fu : Nat) (t : Int) {b : Sl Int} {a : Int} (hb : Src b) (h0 : 0 ≤ a) (h1 : a ≤ 800000000) : Tot (fun y => y.2.2.2.2.2.2.2.2.2.1 = b ∧ a ≤ y.2.2.2.2.2.2.2.2.2.2 ∧ y.2.2.2.2.2.2.2.2.2.2 ≤ a + 30) (F_spec_l7Entry_M fu t b a) := by
  unfold F_spec_l7Entry_M
  refine tot_chance hb h0 (by omega) (fun v => ?_)
  dsimp only
  refine tot_bif (fun _ => tot_some ⟨rfl, by dsimp only; omega, by dsimp only; omega⟩) (fun _ => ?_)
  refine tot_next hb (by omega) (by omega) (fun v _ _ => ?_)
  dsimp only
  refine tot_next hb (by omega) (by omega) (fun v _ _ => ?_)
  dsimp only
  refine tot_bind (d_l5Cmd fu hb (by omega) (by omega)) (fun y hy => ?_)
  obtain ⟨e, k1, k2⟩ := hy
  exact tot_some ⟨e, by dsimp only; omega, by dsimp only; omega⟩
theorem tot_loop {V ρ : Type} {P : ρ → Prop} {B : V → (V → Option ρ) → Option ρ} (I : Nat → V → Prop) (h1 : ∀ m v go, I (m + 1) v → (∀ v', I m v' → Tot P (go v')) → Tot P (B v go)) (h0 : ∀ v go, I 0 v → Tot P (B v go)) : ∀ (m fu : Nat) (v : V), m < fu → I m v → Tot P (L B fu v)
  | 0, fu, v, hf, hi => by
    obtain ⟨fu, rfl⟩ : ∃ k, fu = k + 1 := ⟨fu - 1, by omega⟩
    exact h0 v _ hi
  | m + 1, fu, v, hf, hi => by
    obtain ⟨fu, rfl⟩ : ∃ k, fu = k + 1 := ⟨fu - 1, by omega⟩
    exact h1 m v _ hi (fun v' hv' => tot_loop I h1 h0 m fu v' (by omega) hv')
def LogP (b : Sl Int) (a m : Int) (y : Nat × Sl Int × Int × Nat × (Nat → S_impl_Entry)) : Prop := y.1 ≤ 41 ∧ y.2.1 = b ∧ a ≤ y.2.2.1 ∧ y.2.2.1 ≤ a + m
theorem d_l7Log {fu : Nat} (hf : 2000000 ≤ fu) {b : Sl Int} {a : Int} (hb : Src b) (h0 : 0 ≤ a) (h1 : a ≤ 500000000) : Tot (LogP b a 4000) (F_spec_l7Log_M fu b a) := by
  unfold F_spec_l7Log_M
  refine tot_next hb h0 (by omega) (fun v1 p1 q1 => ?_)
  dsimp only
  refine tot_next hb (by omega) (by omega) (fun v2 p2 q2 => ?_)
  dsimp only
  have q1 := q1 (by decide)
  have q2 := q2 (by decide)
  refine tot_pick (Nat.le_of_ble_eq_true rfl) hb (by omega) (by omega) (fun i hi => ?_)
  dsimp only at hi ⊢
  have hk : 0 ≤ [v1, v2, 40].getD i (dflt .i64) ∧ [v1, v2, 40].getD i (dflt .i64) ≤ 40 := by
    have : i = 0 ∨ i = 1 ∨ i = 2 := by omega
    rcases this with rfl | rfl | rfl
    · exact ⟨p1, by show v1 ≤ 40; omega⟩
    · exact ⟨p2, by show v2 ≤ 40; omega⟩
    · exact ⟨(by decide : (0 : Int) ≤ 40), (by decide : (40 : Int) ≤ 40)⟩
  generalize [v1, v2, 40].getD i (dflt .i64) = k at hk
  refine tot_loop (fun m (v : Nat × Int × Int × Sl Int × Int × Nat × (Nat → S_impl_Entry)) => v.2.2.1 = (m : Int) ∧ v.1 + m ≤ 40 ∧ v.2.2.2.1 = b ∧ a ≤ v.2.2.2.2.1 ∧ v.2.2.2.2.1 ≤ a + 3 + (40 - (m : Int)) * 60) (fun m v go hI hgo => ?_) (fun v go hI => ?_) k.toNat fu _ (by omega) ⟨by dsimp only; omega, by dsimp only; omega, rfl, by dsimp only; omega, by dsimp only; omega⟩
  · obtain ⟨out, term, k, b', a', n, f⟩ := v
    obtain ⟨e1, e2, e3, e4, e5⟩ := hI
    dsimp only at e1 e2 e3 e4 e5 ⊢
    subst e1; subst e3
    unfold F_spec_l7Log_M_B0
    have hpos : ((m + 1 : Nat) : Int) > 0 := by omega
    have hw : IntKind.wrap .i64 (((m + 1 : Nat) : Int) - 1) = (m : Int) := by rw [wrap64 (by omega) (by omega)]; omega
    have c1 : out + 1 ≤ 9223372036854775807 := by omega
    have c2 : (out + 1) * 72 ≤ 140737488355328 := by omega
    simp only [hpos, decide_true, cond_true, hw, c1, c2, Bool.and_self]
    refine tot_chance hb (by omega) (by omega) (fun c => ?_)
    dsimp only
    refine tot_bif (fun _ => ?_) (fun _ => ?_)
    · refine tot_next hb (by omega) (by omega) (fun v _ _ => ?_)
      dsimp only
      refine tot_bind (d_l7Entry fu _ hb (by omega) (by omega)) (fun y hy => ?_)
      obtain ⟨e, k1, k2⟩ := hy
      exact hgo _ ⟨rfl, by dsimp only; omega, e, by dsimp only; omega, by dsimp only; omega⟩
    · refine tot_bind (d_l7Entry fu _ hb (by omega) (by omega)) (fun y hy => ?_)
      obtain ⟨e, k1, k2⟩ := hy
      exact hgo _ ⟨rfl, by dsimp only; omega, e, by dsimp only; omega, by dsimp only; omega⟩
  · obtain ⟨out, term, k, b', a', n, f⟩ := v
    obtain ⟨e1, e2, e3, e4, e5⟩ := hI
    dsimp only at e1 e2 e3 e4 e5 ⊢
    subst e1
    unfold F_spec_l7Log_M_B0
    exact tot_some ⟨by dsimp only; omega, e3, by dsimp only; omega, by dsimp only; omega⟩
theorem d_l7Bent {fu : Nat} (hf : 2000000 ≤ fu) {b : Sl Int} {a : Int} (hb : Src b) (h0 : 0 ≤ a) (h1 : a ≤ 500000000) : Tot (LogP b a 5000) (F_spec_l7Bent_M fu b a) := by
  unfold F_spec_l7Bent_M
  refine tot_bind (d_l7Log hf hb h0 h1) (fun y hy => ?_)
  obtain ⟨n, b', a', n', f⟩ := y
  obtain ⟨e1, e2, e3, e4⟩ := hy
  dsimp only at e1 e2 e3 e4 ⊢
  subst e2
  refine tot_bif (fun _ => tot_some ⟨e1, rfl, by dsimp only; omega, by dsimp only; omega⟩) (fun hn => ?_)
  have hn : n ≠ 0 := by
    intro e; subst e; cases hn
  refine tot_next hb (by omega) (by omega) (fun v p q => ?_)
  have q := q (by omega)
  dsimp only
  have hv : v.toNat < n := by omega
  refine tot_next hb (by omega) (by omega) (fun w _ _ => ?_)
  dsimp only
  simp only [p, hv, decide_true, Bool.and_self]
  repeat' first
    | refine tot_some ⟨?_, rfl, ?_, ?_⟩ <;> (dsimp only; omega)
    | refine tot_chk rfl ?_
    | refine tot_bif (fun _ => ?_) (fun _ => ?_)
    | (refine tot_pick (Nat.le_of_ble_eq_true rfl) hb (by omega) (by omega) (fun i _ => ?_); try dsimp only)
    | (refine tot_bind (d_l5BentCmd fu hb (by omega) (by omega)) (fun y hy => ?_)
       obtain ⟨y1, y2, y3, y4, y5, y6, b', a'⟩ := y
       obtain ⟨g1, g2, g3⟩ := hy
       dsimp only at g1 g2 g3 ⊢
       subst g1)
end Go.Proofs.Ytjdgfkmiaikegaa.Pe
