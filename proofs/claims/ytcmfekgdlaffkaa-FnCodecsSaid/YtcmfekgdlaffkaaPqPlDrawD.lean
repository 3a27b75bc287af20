/- Plain laws of what FnCodecs draws: configs. Conditions: none. -/
import Derived.Test.YtcmfekgdlaffkaaPqPlDrawC
namespace Go.Proofs.Ytcmfekgdlaffkaa.Pq
open Go Go.RowKit Go.Proofs Vm
set_option linter.unusedVariables false
set_option linter.unusedSimpArgs false
set_option maxRecDepth 100000
def copyM (f : Nat → S_impl_Vip) : Nat → Nat → S_impl_Vip
  | 0 => fun _ => dflt .impl_Vip
  | i + 1 => fun j => if j < i then copyM f i j else ([copyV (f i)] : List S_impl_Vip).getD (j - i) (dflt .impl_Vip)
theorem copyM_at (f : Nat → S_impl_Vip) : ∀ i j, j < i → copyM f i j = copyV (f j)
  | 0, j, h => absurd h (Nat.not_lt_zero _)
  | i + 1, j, h => by
    unfold copyM
    by_cases h1 : j < i
    · simp only [h1, if_true]; exact copyM_at f i j h1
    · have : j = i := by omega
      subst this
      simp only [h1, if_false, Nat.sub_self]; rfl
theorem d_Copy {fu : Nat} (hf : 2000000 ≤ fu) (ver : Int) {n0 n1 : Nat} (rn0 : Nat) (rf0 : Nat → S_impl_Backend) (rn1 : Nat) {rf1 : Nat → S_impl_Vip} (hb : n0 ≤ 1000) (hv : n1 ≤ 1000) (hN : ∀ i, i < n1 → (rf1 i).Names.n ≤ 1000) : F_spec_l5Copy_M_3 fu ver n0 n1 rn0 rf0 rn1 rf1 = some (ver, n0, n1, rn0, rf0, rn1, rf1, n0, rf0, n1, copyM rf1 n1) := by
  unfold F_spec_l5Copy_M_3
  have h1 : n0 ≤ 9223372036854775807 := by omega
  have h2 : n0 * 40 ≤ 140737488355328 := by omega
  simp only [h1, h2, decide_true, Bool.and_self, cond_true]
  refine stepL n1 (fun i => ((i : Int), i, i, copyM rf1 i)) (by omega) rfl (fun i go hi => ?_) (fun go => ?_)
  · have hl := hN i hi
    have h3 : (rf1 i).Names.n ≤ 9223372036854775807 := by omega
    have h4 : (rf1 i).Names.n * 8 ≤ 140737488355328 := by omega
    have h5 : i + 1 ≤ 9223372036854775807 := by omega
    have h6 : (i + 1) * 48 ≤ 140737488355328 := by omega
    unfold F_spec_l5Copy_M_3_B0
    simp only [Int.toNat_natCast, Int.natCast_nonneg, Int.ofNat_lt, hi, h3, h4, h5, h6, Nat.le_refl, decide_true, Bool.and_self, cond_true, Option.bind_some, wsucc (show i < 4611686018427387904 by omega)]
    rfl
  · unfold F_spec_l5Copy_M_3_B0
    simp only [Int.lt_irrefl, Nat.le_refl, decide_true, decide_false, cond_false, cond_true, Bool.and_true]
theorem tot_seek {ρ : Type} {P : ρ → Prop} {B : Int → (Int → Option ρ) → Option ρ} {fu n : Nat} (hn : n < fu) (h1 : ∀ (i : Nat) go, i < n → (Tot P (go (IntKind.wrap .i64 ((i : Int) + 1)))) → Tot P (B (i : Int) go)) (h0 : ∀ go, Tot P (B (n : Int) go)) (hs : n < 1000000) : Tot P (L B fu 0) := by
  refine tot_loop (fun m v => ∃ i : Nat, v = (i : Int) ∧ i + m = n) (fun m v go hv hgo => ?_) (fun v go hv => ?_) n fu 0 hn ⟨0, rfl, by omega⟩
  · obtain ⟨i, rfl, hi⟩ := hv
    refine h1 i go (by omega) (hgo _ ⟨i + 1, ?_, by omega⟩)
    rw [wrap64 (by omega) (by omega)]; rfl
  · obtain ⟨i, rfl, hi⟩ := hv
    have : i = n := by omega
    subst this
    exact h0 go
theorem d_Find {fu : Nat} (hf : 2000000 ≤ fu) (c : S_impl_Config) (x : S_impl_Cmd) (hn : c.Vips.n ≤ 1000) : Tot (fun v => -1 ≤ v ∧ v < (c.Vips.n : Int)) (F_spec_l5Find fu c x) := by
  unfold F_spec_l5Find
  refine tot_seek (n := c.Vips.n) (by omega) (fun i go hi hgo => ?_) (fun go => ?_) (by omega)
  · unfold F_spec_l5Find_B0
    simp only [Int.toNat_natCast, Int.natCast_nonneg, Int.ofNat_lt, hi, decide_true, Bool.and_self, cond_true, Option.bind_some]
    refine tot_bind (Q := fun _ => True) ?_ (fun m _ => tot_bif (fun _ => tot_some ⟨by omega, by omega⟩) (fun _ => hgo))
    exact tot_bif (fun _ => tot_bif (fun _ => tot_some trivial) (fun _ => tot_some trivial)) (fun _ => tot_some trivial)
  · unfold F_spec_l5Find_B0
    simp only [Int.lt_irrefl, decide_false, cond_false]
    exact tot_some ⟨by omega, by omega⟩
theorem d_At {fu : Nat} (hf : 2000000 ≤ fu) (c : S_impl_Config) (x : Int) (hn : c.Backends.n ≤ 1000) : Tot (fun v => -1 ≤ v ∧ v < (c.Backends.n : Int)) (F_spec_l5At fu c x) := by
  unfold F_spec_l5At
  refine tot_seek (n := c.Backends.n) (by omega) (fun i go hi hgo => ?_) (fun go => ?_) (by omega)
  · unfold F_spec_l5At_B0
    simp only [Int.toNat_natCast, Int.natCast_nonneg, Int.ofNat_lt, hi, decide_true, Bool.and_self, cond_true, Option.bind_some]
    exact tot_bif (fun _ => tot_some ⟨by omega, by omega⟩) (fun _ => hgo)
  · unfold F_spec_l5At_B0
    simp only [Int.lt_irrefl, decide_false, cond_false]
    exact tot_some ⟨by omega, by omega⟩
theorem d_Has {fu : Nat} (hf : 2000000 ≤ fu) (l : Sl Int) (x : Int) (hn : l.n ≤ 1000) : Tot (fun _ => True) (F_spec_l1Has fu l x) := by
  unfold F_spec_l1Has
  refine tot_seek (n := l.n) (by omega) (fun i go hi hgo => ?_) (fun go => ?_) (by omega)
  · unfold F_spec_l1Has_B0
    simp only [Int.toNat_natCast, Int.natCast_nonneg, Int.ofNat_lt, hi, decide_true, Bool.and_self, cond_true, Option.bind_some]
    exact tot_bif (fun _ => tot_some trivial) (fun _ => hgo)
  · unfold F_spec_l1Has_B0
    simp only [Int.lt_irrefl, decide_false, cond_false]
    exact tot_some trivial
theorem d_Serves {fu : Nat} (hf : 2000000 ≤ fu) (c : S_impl_Config) (x : Int) (hn : c.Vips.n ≤ 1000) (hN : ∀ i, i < c.Vips.n → (c.Vips.f i).Names.n ≤ 1000) : Tot (fun _ => True) (F_spec_l5Serves fu c x) := by
  unfold F_spec_l5Serves
  refine tot_seek (n := c.Vips.n) (by omega) (fun i go hi hgo => ?_) (fun go => ?_) (by omega)
  · unfold F_spec_l5Serves_B0
    simp only [Int.toNat_natCast, Int.natCast_nonneg, Int.ofNat_lt, hi, decide_true, Bool.and_self, cond_true, Option.bind_some]
    exact tot_bind (d_Has hf _ _ (hN i hi)) (fun y _ => tot_bif (fun _ => tot_some trivial) (fun _ => hgo))
  · unfold F_spec_l5Serves_B0
    simp only [Int.lt_irrefl, decide_false, cond_false]
    exact tot_some trivial
theorem d_Rise {fu : Nat} (hf : 2000000 ≤ fu) (l : Sl Int) (x : Int) (hn : l.n ≤ 1000) : Tot (fun r => r.n ≤ l.n + 1) (F_spec_l1Rise fu l x) := by
  have fin : ∀ (i : Nat), i ≤ l.n → Tot (fun r : Sl Int => r.n ≤ l.n + 1) ((fun z456 : Int => (((bif (decide (z456 < ((l.n : Nat) : Int))) then ((bif (decide (0 ≤ z456) && decide ((Int.toNat z456) < l.n)) then some () else none : Option Unit).bind fun _ => (some ((l.f (Int.toNat z456)) == x))) else (some false)) : Option Bool).bind fun m457 => (bif m457 then (some l) else
  ((bif (decide ((0 : Int) ≤ z456) && decide ((Int.toNat z456) ≤ l.n)) then some () else none : Option Unit).bind fun _ => (bif (decide (((Int.toNat z456) - 0) ≤ 9223372036854775807) &&
  decide (((Int.toNat z456) - 0) * 8 ≤ 140737488355328)) then (bif (decide ((((Int.toNat z456) - 0) + 1) ≤ 9223372036854775807) && decide ((((Int.toNat z456) - 0) + 1) * 8 ≤ 140737488355328)) then
  ((bif (decide (0 ≤ z456) && (decide (z456 ≤ ((l.n : Nat) : Int)) && decide (l.n ≤ l.n))) then some () else none : Option Unit).bind fun _ => (bif (decide (((((Int.toNat z456) - 0) + 1) + (l.n - (Int.toNat z456))) ≤ 9223372036854775807) &&
  decide (((((Int.toNat z456) - 0) + 1) + (l.n - (Int.toNat z456))) * 8 ≤ 140737488355328)) then (some (⟨none, ((((Int.toNat z456) - 0) + 1) + (l.n - (Int.toNat z456))),
  (fun i => if i < (((Int.toNat z456) - 0) + 1) then ((fun i => if i < ((Int.toNat z456) - 0) then ((fun i => l.f (0 + i)) i) else ((fun i => ([x] : List (Int)).getD i (dflt .i64)) (i - ((Int.toNat z456) - 0)))) i) else
  ((fun i => l.f ((Int.toNat z456) + i)) (i - (((Int.toNat z456) - 0) + 1))))⟩ : (Sl Int))) else none)) else none) else none))))) (i : Int)) := fun i hi => by
    have a1 : i ≤ 9223372036854775807 := by omega
    have a2 : i * 8 ≤ 140737488355328 := by omega
    have a3 : i + 1 ≤ 9223372036854775807 := by omega
    have a4 : (i + 1) * 8 ≤ 140737488355328 := by omega
    have a5 : i + 1 + (l.n - i) ≤ 9223372036854775807 := by omega
    have a6 : (i + 1 + (l.n - i)) * 8 ≤ 140737488355328 := by omega
    simp only [Int.toNat_natCast, Int.natCast_nonneg, Int.ofNat_lt, Int.ofNat_le, Nat.sub_zero, hi, a1, a2, a3, a4, a5, a6, Nat.le_refl, decide_true, Bool.and_self, cond_true, Option.bind_some]
    refine tot_bind (Q := fun _ => True) (tot_bif (fun h => tot_chk ?_ (tot_some trivial)) (fun _ => tot_some trivial)) (fun m _ => tot_bif (fun _ => tot_some (by omega)) (fun _ => tot_some (by dsimp only; omega)))
    simp only [decide_eq_true_eq] at h
    simp only [h, decide_true, Bool.and_self]
  unfold F_spec_l1Rise
  refine tot_seek (n := l.n) (by omega) (fun i go hi hgo => ?_) (fun go => ?_) (by omega)
  · unfold F_spec_l1Rise_B0
    simp only [Int.toNat_natCast, Int.natCast_nonneg, Int.ofNat_lt, hi, decide_true, Bool.and_self, cond_true, Option.bind_some]
    refine tot_bif (fun _ => hgo) (fun _ => ?_)
    have := fin i (by omega)
    simp only [Int.toNat_natCast, Int.natCast_nonneg, Int.ofNat_lt, hi, decide_true, Bool.and_self, cond_true, Option.bind_some] at this
    exact this
  · unfold F_spec_l1Rise_B0
    simp only [Int.lt_irrefl, decide_false, cond_false, Option.bind_some]
    have := fin l.n (Nat.le_refl _)
    simp only [Int.lt_irrefl, decide_false, cond_false, Option.bind_some] at this
    exact this
end Go.Proofs.Ytcmfekgdlaffkaa.Pq
