/- Plain laws of copies, marks and what holds them. Conditions: none. -/
import Derived.Test.YtjdgfkmiaikegaaPdPlNode2
namespace Go.Proofs.Ytjdgfkmiaikegaa.Pd
open Go Go.RowKit Go.Proofs Vm
set_option linter.unusedVariables false
set_option linter.unusedSimpArgs false
set_option maxRecDepth 100000

theorem runL {ρ V α σ : Type} {B : V → (V → Option ρ) → Option ρ} {fu : Nat} {r : Option ρ} {v : V} (n : Nat) (st : Nat → σ → V) (s : σ) (f : Nat → σ → Sum α σ) (kr : α → Option ρ) (ke : σ → Option ρ) (I : Nat → σ → Prop) (hf : n < fu) (hv : v = st 0 s) (h0 : I 0 s)
    (h1 : ∀ i s go, i < n → I i s → B (st i s) go = (f i s).elim kr (fun s' => go (st (i + 1) s'))) (hI : ∀ i s s', i < n → I i s → f i s = .inr s' → I (i + 1) s') (h2 : ∀ s go, I n s → B (st n s) go = ke s) (hr : (run f n 0 s).elim kr ke = r) : L B fu v = r := by
  subst hv
  have h := L_runI (B := B) st n f kr ke I (fun i s go hi hs => by rw [h1 i s go hi hs]; cases f i s <;> rfl) hI h2 n 0 s fu (by omega) hf h0
  rw [h, ← hr]
  cases run f n 0 s <;> rfl

/-- A loop without an early end. -/
theorem stepL {ρ V : Type} {B : V → (V → Option ρ) → Option ρ} {fu : Nat} {v : V} {ke : Option ρ} (n : Nat) (st : Nat → V) (hf : n < fu) (hv : v = st 0) (h1 : ∀ i go, i < n → B (st i) go = go (st (i + 1))) (h2 : ∀ go, B (st n) go = ke) : L B fu v = ke := by
  subst hv
  have key : ∀ m i fu, i + m = n → m < fu → L B fu (st i) = ke := by
    intro m
    induction m with
    | zero =>
      intro i fu hi hf
      obtain ⟨fu, rfl⟩ : ∃ k, fu = k + 1 := ⟨fu - 1, by omega⟩
      have : i = n := by omega
      subst this
      simp only [L, h2]
    | succ m ih =>
      intro i fu hi hf
      obtain ⟨fu, rfl⟩ : ∃ k, fu = k + 1 := ⟨fu - 1, by omega⟩
      simp only [L]
      rw [h1 i _ (by omega)]
      exact ih (i + 1) fu (by omega) (by omega)
  exact key n 0 fu (by omega) hf

/-- Marks, written from k on, w to an element. -/
def marks {α : Type} (mk : Int → α) (w k : Int) (n : Nat) (f : Nat → α) : Nat → α := fun i => if i < n then mk (k + w * i) else f i
theorem marks_succ {α : Type} (mk : Int → α) (w k : Int) (i : Nat) (f : Nat → α) : (fun j => if j = i then mk (k + w * i) else marks mk w k i f j) = marks mk w k (i + 1) f := by
  funext j
  unfold marks
  by_cases h1 : j = i
  · subst h1; simp
  · by_cases h2 : j < i
    · have : j < i + 1 := by omega
      simp [h1, h2, this]
    · have : ¬ j < i + 1 := by omega
      simp [h1, h2, this]
theorem marks_at {α : Type} {mk : Int → α} {w k : Int} {n : Nat} {f : Nat → α} {i : Nat} (h : i < n) : marks mk w k n f i = mk (k + w * i) := by unfold marks; rw [if_pos h]

def mkE (k : Int) : S_impl_Entry := ⟨k, k + 1, k + 1 + 1, ⟨k + 1 + 1 + 1, k + 1 + 1 + 1 + 1, k + 1 + 1 + 1 + 1 + 1, k + 1 + 1 + 1 + 1 + 1 + 1, k + 1 + 1 + 1 + 1 + 1 + 1 + 1, k + 1 + 1 + 1 + 1 + 1 + 1 + 1 + 1⟩⟩

theorem m_EntryS {fu : Nat} (hf : 2000000 ≤ fu) (n : Nat) (k : Int) (rn : Nat) (f : Nat → S_impl_Entry) (hn : n ≤ 1048576) (h0 : 0 ≤ k) (h1 : k ≤ 1000000000000) : F_laws_markEntryS_L fu n k rn f = some (k + 9 * n, (rn, marks mkE 9 k n f)) := by
  unfold F_laws_markEntryS_L
  refine stepL n (fun i => (k + 9 * i, (i : Int), marks mkE 9 k i f)) (by omega) ?_ (fun i go hi => ?_) (fun go => ?_)
  · have : marks mkE 9 k 0 f = f := by funext j; simp [marks]
    simp [this]
  · unfold F_laws_markEntryS_L_B0
    have e1 : IntKind.wrap .i64 (k + 9 * (i : Int) + 1) = k + 9 * i + 1 := wrap64 (by omega) (by omega)
    have e2 : IntKind.wrap .i64 (k + 9 * (i : Int) + 1 + 1) = k + 9 * i + 1 + 1 := wrap64 (by omega) (by omega)
    have e3 : IntKind.wrap .i64 (k + 9 * (i : Int) + 1 + 1 + 1) = k + 9 * i + 1 + 1 + 1 := wrap64 (by omega) (by omega)
    have e4 : IntKind.wrap .i64 (k + 9 * (i : Int) + 1 + 1 + 1 + 1) = k + 9 * i + 1 + 1 + 1 + 1 := wrap64 (by omega) (by omega)
    have e5 : IntKind.wrap .i64 (k + 9 * (i : Int) + 1 + 1 + 1 + 1 + 1) = k + 9 * i + 1 + 1 + 1 + 1 + 1 := wrap64 (by omega) (by omega)
    have e6 : IntKind.wrap .i64 (k + 9 * (i : Int) + 1 + 1 + 1 + 1 + 1 + 1) = k + 9 * i + 1 + 1 + 1 + 1 + 1 + 1 := wrap64 (by omega) (by omega)
    have e7 : IntKind.wrap .i64 (k + 9 * (i : Int) + 1 + 1 + 1 + 1 + 1 + 1 + 1) = k + 9 * i + 1 + 1 + 1 + 1 + 1 + 1 + 1 := wrap64 (by omega) (by omega)
    have e8 : IntKind.wrap .i64 (k + 9 * (i : Int) + 1 + 1 + 1 + 1 + 1 + 1 + 1 + 1) = k + 9 * i + 1 + 1 + 1 + 1 + 1 + 1 + 1 + 1 := wrap64 (by omega) (by omega)
    have e9 : IntKind.wrap .i64 (k + 9 * (i : Int) + 1 + 1 + 1 + 1 + 1 + 1 + 1 + 1 + 1) = k + 9 * i + 1 + 1 + 1 + 1 + 1 + 1 + 1 + 1 + 1 := wrap64 (by omega) (by omega)
    simp only [Int.toNat_natCast, Int.natCast_nonneg, Int.ofNat_lt, hi, decide_true, Bool.and_self, cond_true, Option.bind_some, wsucc (show i < 4611686018427387904 by omega), e1, e2, e3, e4, e5, e6, e7, e8, e9]
    have hm := marks_succ mkE 9 k i f
    have hu : upd_impl_Entry_8_1 (upd_impl_Entry_7_1 (upd_impl_Entry_6_1 (upd_impl_Entry_5_1 (upd_impl_Entry_4_1 (upd_impl_Entry_3_1 (upd_impl_Entry_2_1 (upd_impl_Entry_1_1 (upd_impl_Entry_0_1 (marks mkE 9 k i f) i (k + 9 * i)) i (k + 9 * i + 1)) i (k + 9 * i + 1 + 1)) i (k + 9 * i + 1 + 1 + 1)) i (k + 9 * i + 1 + 1 + 1 + 1)) i (k + 9 * i + 1 + 1 + 1 + 1 + 1)) i (k + 9 * i + 1 + 1 + 1 + 1 + 1 + 1)) i (k + 9 * i + 1 + 1 + 1 + 1 + 1 + 1 + 1)) i (k + 9 * i + 1 + 1 + 1 + 1 + 1 + 1 + 1 + 1) = marks mkE 9 k (i + 1) f := by
      rw [← hm]
      funext j
      by_cases hj : j = i
      · subst hj
        simp only [upd_impl_Entry_0_1, upd_impl_Entry_1_1, upd_impl_Entry_2_1, upd_impl_Entry_3_1, upd_impl_Entry_4_1, upd_impl_Entry_5_1, upd_impl_Entry_6_1, upd_impl_Entry_7_1, upd_impl_Entry_8_1, if_pos, mkE]
      · simp only [upd_impl_Entry_0_1, upd_impl_Entry_1_1, upd_impl_Entry_2_1, upd_impl_Entry_3_1, upd_impl_Entry_4_1, upd_impl_Entry_5_1, upd_impl_Entry_6_1, upd_impl_Entry_7_1, upd_impl_Entry_8_1, if_neg hj]
    rw [hu, show k + 9 * (i : Int) + 1 + 1 + 1 + 1 + 1 + 1 + 1 + 1 + 1 = k + 9 * ((i + 1 : Nat) : Int) by omega]
  · unfold F_laws_markEntryS_L_B0
    simp

theorem h_EntryS {fu : Nat} (hf : 2000000 ≤ fu) (x : Sl S_impl_Entry) (k : Int) (hn : x.n ≤ 1048576) (h0 : 0 ≤ k) (h1 : k ≤ 1000000000000) (hx : ∀ i, i < x.n → x.f i = mkE (k + 9 * i)) : F_laws_heldEntryS fu x k = some (k + 9 * x.n) := by
  unfold F_laws_heldEntryS
  refine stepL x.n (fun i => (k + 9 * i, (i : Int))) (by omega) (by simp) (fun i go hi => ?_) (fun go => ?_)
  · unfold F_laws_heldEntryS_B0
    have e1 : IntKind.wrap .i64 (k + 9 * (i : Int) + 1) = k + 9 * i + 1 := wrap64 (by omega) (by omega)
    have e2 : IntKind.wrap .i64 (k + 9 * (i : Int) + 1 + 1) = k + 9 * i + 1 + 1 := wrap64 (by omega) (by omega)
    have e3 : IntKind.wrap .i64 (k + 9 * (i : Int) + 1 + 1 + 1) = k + 9 * i + 1 + 1 + 1 := wrap64 (by omega) (by omega)
    have e4 : IntKind.wrap .i64 (k + 9 * (i : Int) + 1 + 1 + 1 + 1) = k + 9 * i + 1 + 1 + 1 + 1 := wrap64 (by omega) (by omega)
    have e5 : IntKind.wrap .i64 (k + 9 * (i : Int) + 1 + 1 + 1 + 1 + 1) = k + 9 * i + 1 + 1 + 1 + 1 + 1 := wrap64 (by omega) (by omega)
    have e6 : IntKind.wrap .i64 (k + 9 * (i : Int) + 1 + 1 + 1 + 1 + 1 + 1) = k + 9 * i + 1 + 1 + 1 + 1 + 1 + 1 := wrap64 (by omega) (by omega)
    have e7 : IntKind.wrap .i64 (k + 9 * (i : Int) + 1 + 1 + 1 + 1 + 1 + 1 + 1) = k + 9 * i + 1 + 1 + 1 + 1 + 1 + 1 + 1 := wrap64 (by omega) (by omega)
    have e8 : IntKind.wrap .i64 (k + 9 * (i : Int) + 1 + 1 + 1 + 1 + 1 + 1 + 1 + 1) = k + 9 * i + 1 + 1 + 1 + 1 + 1 + 1 + 1 + 1 := wrap64 (by omega) (by omega)
    have e9 : IntKind.wrap .i64 (k + 9 * (i : Int) + 1 + 1 + 1 + 1 + 1 + 1 + 1 + 1 + 1) = k + 9 * i + 1 + 1 + 1 + 1 + 1 + 1 + 1 + 1 + 1 := wrap64 (by omega) (by omega)
    simp only [Int.toNat_natCast, Int.natCast_nonneg, Int.ofNat_lt, hi, decide_true, Bool.and_self, cond_true, Option.bind_some, wsucc (show i < 4611686018427387904 by omega), e1, e2, e3, e4, e5, e6, e7, e8, e9, hx i hi, mkE, bne_self_eq_false, cond_false]
    rw [show k + 9 * (i : Int) + 1 + 1 + 1 + 1 + 1 + 1 + 1 + 1 + 1 = k + 9 * ((i + 1 : Nat) : Int) by omega]
  · unfold F_laws_heldEntryS_B0
    simp

theorem m_Int64S {fu : Nat} (hf : 2000000 ≤ fu) (n : Nat) (k : Int) (rn : Nat) (f : Nat → Int) (hn : n ≤ 1048576) (h0 : 0 ≤ k) (h1 : k ≤ 1000000000000) : F_laws_markInt64S_L fu n k rn f = some (k + 1 * n, (rn, marks id 1 k n f)) := by
  unfold F_laws_markInt64S_L
  refine stepL n (fun i => (k + 1 * i, (i : Int), marks id 1 k i f)) (by omega) ?_ (fun i go hi => ?_) (fun go => ?_)
  · have : marks id 1 k 0 f = f := by funext j; simp [marks]
    simp [this]
  · unfold F_laws_markInt64S_L_B0
    have e1 : IntKind.wrap .i64 (k + 1 * (i : Int) + 1) = k + 1 * i + 1 := wrap64 (by omega) (by omega)
    simp only [Int.toNat_natCast, Int.natCast_nonneg, Int.ofNat_lt, hi, decide_true, Bool.and_self, cond_true, Option.bind_some, wsucc (show i < 4611686018427387904 by omega), e1]
    have hm := marks_succ id 1 k i f
    simp only [id] at hm
    rw [hm, show k + 1 * (i : Int) + 1 = k + 1 * ((i + 1 : Nat) : Int) by omega]
  · unfold F_laws_markInt64S_L_B0
    simp

theorem h_Int64S {fu : Nat} (hf : 2000000 ≤ fu) (x : Sl Int) (k : Int) (hn : x.n ≤ 1048576) (h0 : 0 ≤ k) (h1 : k ≤ 1000000000000) (hx : ∀ i, i < x.n → x.f i = id (k + 1 * i)) : F_laws_heldInt64S fu x k = some (k + 1 * x.n) := by
  unfold F_laws_heldInt64S
  refine stepL x.n (fun i => (k + 1 * i, (i : Int))) (by omega) (by simp) (fun i go hi => ?_) (fun go => ?_)
  · unfold F_laws_heldInt64S_B0
    have e1 : IntKind.wrap .i64 (k + 1 * (i : Int) + 1) = k + 1 * i + 1 := wrap64 (by omega) (by omega)
    simp only [Int.toNat_natCast, Int.natCast_nonneg, Int.ofNat_lt, hi, decide_true, Bool.and_self, cond_true, Option.bind_some, wsucc (show i < 4611686018427387904 by omega), e1, hx i hi, id, bne_self_eq_false, cond_false]
    rw [show k + 1 * (i : Int) + 1 = k + 1 * ((i + 1 : Nat) : Int) by omega]
  · unfold F_laws_heldInt64S_B0
    simp

/-! ### Copies that are handed over -/

theorem tH_EntryS {fu : Nat} (hf : 2000000 ≤ fu) (x : Sl S_laws_Entry) (hx : x.n ≤ 1048576) : F_laws_toEntryS_H fu x = some (cp toE d_Entry x) := by
  unfold F_laws_toEntryS_H
  have h1 : (72 : Int) * (x.n : Int) ≤ 281474976710656 := by omega
  have h2 : (x.n : Int) ≤ 9223372036854775807 := by omega
  simp only [h1, h2, decide_true, Bool.and_true, Int.toNat_natCast, Int.natCast_nonneg, cond_true]
  exact to_loop x.n x.f toE d_Entry (fun w0 go0 => F_laws_toEntryS_H_B0 fu x x.n x.n (fun z => some (⟨none, x.n, z⟩ : Sl S_impl_Entry)) w0.1 w0.2 (fun q0 q1 => go0 (q0, q1))) (fun z => some (⟨none, x.n, z⟩ : Sl S_impl_Entry)) (fun i o go hi => by
    unfold F_laws_toEntryS_H_B0
    by_cases h : i < x.n
    · simp [h, wsucc (show i < 4611686018427387904 by omega), t_Entry]
    · simp [h]) fu (by omega)

theorem tH_Int64S {fu : Nat} (hf : 2000000 ≤ fu) (x : Sl Int) (hx : x.n ≤ 1048576) : F_laws_toInt64S_H fu x = some (cp id 0 x) := by
  unfold F_laws_toInt64S_H
  have h1 : (8 : Int) * (x.n : Int) ≤ 281474976710656 := by omega
  have h2 : (x.n : Int) ≤ 9223372036854775807 := by omega
  simp only [h1, h2, decide_true, Bool.and_true, Int.toNat_natCast, Int.natCast_nonneg, cond_true]
  exact to_loop x.n x.f id 0 (fun w0 go0 => F_laws_toInt64S_H_B0 fu x x.n x.n (fun z => some (⟨none, x.n, z⟩ : Sl Int)) w0.1 w0.2 (fun q0 q1 => go0 (q0, q1))) (fun z => some (⟨none, x.n, z⟩ : Sl Int)) (fun i o go hi => by
    unfold F_laws_toInt64S_H_B0
    by_cases h : i < x.n
    · simp [h, wsucc (show i < 4611686018427387904 by omega)]
    · simp [h]) fu (by omega)

theorem tH_Node {fu : Nat} (hf : 2000000 ≤ fu) (x : S_laws_Node) (hx : NodeLen' x) : F_laws_toNode_H fu x = some (toN x) := by
  unfold F_laws_toNode_H
  simp only [tH_EntryS hf x.Log hx.log, tH_Int64S hf x.Votes hx.votes, tH_Int64S hf x.Next hx.next, tH_Int64S hf x.Match hx.mat, Option.bind_some]
  rfl

/-- A row in new memory. -/
def fresh {α : Type} (x : Sl α) : Sl α := ⟨none, x.n, x.f⟩
theorem c_l7Copy (fu : Nat) (x : Sl S_impl_Entry) (hx : x.n ≤ 1048576) : F_spec_l7Copy_H fu x = some (fresh x) := by
  unfold F_spec_l7Copy_H
  have h1 : x.n ≤ 9223372036854775807 := by omega
  have h2 : x.n * 72 ≤ 140737488355328 := by omega
  simp [h1, h2, fresh]
theorem c_Clone (fu : Nat) (x : Sl S_impl_Entry) (hx : x.n ≤ 1048576) : F_slices_Clone_impl_Entry_impl_Entry_H fu x = some (fresh x) := by
  unfold F_slices_Clone_impl_Entry_impl_Entry_H
  have h1 : x.n ≤ 9223372036854775807 := by omega
  have h2 : x.n * 72 ≤ 140737488355328 := by omega
  simp [h1, h2, fresh]

end Go.Proofs.Ytjdgfkmiaikegaa.Pd
