/- The law of timeouts, of what is asked and of what is sent: a node drawn; the law. Conditions: none. -/
import Derived.Test.YtjdgfkmiaikegaaPePlAsks
namespace Go.Proofs.Ytjdgfkmiaikegaa.Pe
open Go Go.RowKit Go.Proofs Vm
set_option linter.unusedVariables false
set_option linter.unusedSimpArgs false
set_option maxRecDepth 100000
theorem tot_ok {α : Type} {P : α → Prop} {c : Bool} {x : Option α} (hc : c = true) (h : Tot P x) : Tot P (bif c then x else none) := by
 subst hc; exact h
theorem tot_max {α : Type} {P : α → Prop} {fu : Nat} {a b : Int} {k : Int → Option α} (h : ∀ v, Tot P (k v)) : Tot P ((F_spec_l1Max fu a b).bind k) := by
 unfold F_spec_l1Max
 cases decide (a > b) <;> exact h _
abbrev NodeM : Type := Int × Int × Int × Int × Nat × Int × Int × Nat × Nat × Nat × (Sl Int) × Int × Nat × (Nat → S_impl_Entry) × Nat × (Nat → Int) × Nat × (Nat → Int) × Nat × (Nat → Int)
def NodeP (b : Sl Int) (a : Int) (y : NodeM) : Prop := y.2.2.2.2.1 ≤ 64 ∧ y.2.2.2.2.2.2.2.1 ≤ 64 ∧ y.2.2.2.2.2.2.2.2.1 ≤ 64 ∧ y.2.2.2.2.2.2.2.2.2.1 ≤ 64 ∧ y.2.2.2.2.2.2.2.2.2.2.1 = b ∧ a ≤ y.2.2.2.2.2.2.2.2.2.2.2.1 ∧ y.2.2.2.2.2.2.2.2.2.2.2.1 ≤ a + 20000
theorem t_specAgree3 {ρ : Type} {fu : Nat} (hf : 2000000 ≤ fu) {a1 : Nat} {a2 a3 : Int} {a4 : Sl Int} {a5 a6 a7 a8 a9 a10 a11 : Int} {a12 : Nat} {f : Nat → S_impl_Entry} {a14 p t a17 : Int} {n : Nat} {a19 c : Int} {a21 m a23 : Nat} {a24 : Nat → Int} {a25 : Nat} {g : Nat → Int} {k0 : Int → Option ρ} {k1 : Option ρ}
  (hn : n ≤ 1048576) (hm : m ≤ 1048576) (h0 : 0 ≤ c) (h1 : c ≤ n) (hk : k1 = k0 c) :
  L (fun w0 go0 => F_spec_l8Node_M_i0_i1_B0 fu a1 a2 a3 a4 a5 a6 a7 a8 a9 a10 a11 a12 f a14 p t a17 n a19 c a21 m a23 a24 a25 g k0 k1 w0 go0) fu (n : Int) = k0 (agr p t n f m g c) := by
 refine L_agr hf p t c n m f g k0 k1 hn h0 h1 (fun i go hi => ?_) (fun go => ?_) hk
 ·unfold F_spec_l8Node_M_i0_i1_B0
  have hc : (n : Int) - (i : Nat) > c := by omega
  simp only [hc, decide_true, cond_true]
  refine stepL m (fun j => (cnt g ((n : Int) - (i : Nat)) j, (j : Int))) (by omega) rfl (fun j go2 hj => ?_) (fun go2 => ?_)
  ·unfold F_spec_l8Node_M_i0_i1_B2
   have hb := cnt_le g ((n : Int) - (i : Nat)) j
   have e1 : IntKind.wrap .i64 (cnt g ((n : Int) - (i : Nat)) j + 1) = cnt g ((n : Int) - (i : Nat)) j + 1 := wrap64 (by omega) (by omega)
   simp only [Int.toNat_natCast, Int.natCast_nonneg, Int.ofNat_lt, hj, decide_true, Bool.and_self, cond_true, Option.bind_some, wsucc (show j < 4611686018427387904 by omega), e1, cnt]
   cases decide (g j ≥ (n : Int) - (i : Nat)) <;> rfl
  ·unfold F_spec_l8Node_M_i0_i1_B2 agrAt
   have e2 : IntKind.wrap .i64 ((n : Int) - (i : Nat) - 1) = ((n - i - 1 : Nat) : Int) := by rw [wrap64 (by omega) (by omega)]; omega
   have e3 : n - i - 1 < n := by omega
   have e4 : ((n : Int) - ((i + 1 : Nat) : Int)) = ((n - i - 1 : Nat) : Int) := by omega
   simp only [Int.lt_irrefl, decide_false, cond_false, Option.bind_some, e2, e4, Int.toNat_natCast, Int.natCast_nonneg, e3, decide_true, Bool.and_self, cond_true]
   cases decide (IntKind.wrap .i64 (2 * cnt g ((n : Int) - (i : Nat)) m) > p) <;> simp only [cond_true, cond_false, Option.bind_some, Bool.true_and, Bool.false_and] <;> first
    | rfl
    | (cases ((f (n - i - 1)).Term == t) <;> rfl)
 ·unfold F_spec_l8Node_M_i0_i1_B0
  have hc : ¬ ((n : Int) - ((((n : Int) - c).toNat : Nat) : Int) > c) := by omega
  simp only [hc, decide_false, cond_false]
theorem tot_node {b : Sl Int} {a : Int} {y1 y2 y3 y4 : Int} {n1 : Nat} {y6 y7 : Int} {n2 n3 n4 : Nat} {p : Int} {r1 : Nat} {f1 : Nat → S_impl_Entry} {r2 : Nat} {f2 : Nat → Int} {r3 : Nat} {f3 : Nat → Int} {r4 : Nat} {f4 : Nat → Int}
  (h1 : n1 ≤ 64) (h2 : n2 ≤ 64) (h3 : n3 ≤ 64) (h4 : n4 ≤ 64) (h5 : a ≤ p) (h6 : p ≤ a + 20000) : Tot (NodeP b a) (some (y1, y2, y3, y4, n1, y6, y7, n2, n3, n4, b, p, r1, f1, r2, f2, r3, f3, r4, f4)) := tot_some ⟨h1, h2, h3, h4, rfl, h5, h6⟩
theorem tot_isSome {α : Type} {P : α → Prop} {y : α} (h : Tot P (some y)) : Tot P (some y) := h
theorem tot_bent {α : Type} {P : α → Prop} {fu : Nat} (hf : 2000000 ≤ fu) {b : Sl Int} {a : Int} {k : Nat × Sl Int × Int × Nat × (Nat → S_impl_Entry) → Option α} (hb : Src b) (h0 : 0 ≤ a) (h1 : a ≤ 500000000) (h : ∀ n p r f, n ≤ 41 → a ≤ p → p ≤ a + 5000 → Tot P (k (n, b, p, r, f))) : Tot P ((F_spec_l7Bent_M fu b a).bind k) := by
 refine tot_bind (d_l7Bent hf hb h0 h1) (fun y hy => ?_)
 obtain ⟨n, b', p, r, f⟩ := y
 obtain ⟨e1, e2, e3, e4⟩ := hy
 dsimp only at e1 e2 e3 e4
 subst e2
 exact h n p r f e1 e3 e4
theorem d_l8Node {fu : Nat} (hf : 2000000 ≤ fu) {b : Sl Int} {a : Int} (hb : Src b) (h0 : 0 ≤ a) (h1 : a ≤ 100000000) : Tot (NodeP b a) (F_spec_l8Node_M fu b a) := by
 unfold F_spec_l8Node_M
 refine tot_bind (d_l7Log hf hb h0 (by omega)) (fun y hy => ?_)
 obtain ⟨n, b1, a1, n1, f1⟩ := y
 obtain ⟨e1, e2, e3, e4⟩ := hy
 dsimp only at e1 e2 e3 e4 ⊢
 subst e2
 refine tot_pick (Nat.le_of_ble_eq_true rfl) hb (by omega) (by omega) (fun i hi => ?_)
 dsimp only at hi ⊢
 have hp : 1 ≤ ([3, 3, 1, 5] : List Int).getD i (dflt .i64) ∧ ([3, 3, 1, 5] : List Int).getD i (dflt .i64) ≤ 5 := by
  have : i = 0 ∨ i = 1 ∨ i = 2 ∨ i = 3 := by omega
  rcases this with rfl | rfl | rfl | rfl <;> exact ⟨by decide, by decide⟩
 generalize ([3, 3, 1, 5] : List Int).getD i (dflt .i64) = p at hp
 refine tot_next hb (by omega) (by omega) (fun d d0 d1 => ?_)
 have d1 := d1 hp.1
 dsimp only
 rw [s_LastOf fu _ (show n ≤ 1048576 by omega)]
 simp only [Option.bind_some]
 refine tot_next hb (by omega) (by omega) (fun t _ _ => ?_)
 dsimp only
 refine tot_next hb (by omega) (by omega) (fun v _ _ => ?_)
 dsimp only
 refine tot_next hb (by omega) (by omega) (fun c c0 c1 => ?_)
 have c1 := c1 (by rw [wrap64 (by omega) (by omega)]; omega)
 rw [wrap64 (by omega) (by omega)] at c1
 dsimp only
 refine tot_bif (fun _ => ?_) (fun _ => ?_)
 rotate_left
 ·repeat' first
   | ((with_reducible refine tot_isSome ?_); refine tot_node ?_ ?_ ?_ ?_ ?_ ?_ <;> omega)
   | ((with_reducible refine tot_ok ?_ ?_) <;> first | (simp only [Bool.and_eq_true, decide_eq_true_eq]; omega) | skip)
   | (with_reducible refine tot_bif (fun _ => ?_) (fun _ => ?_))
   | ((with_reducible refine tot_pick ?_ hb ?_ ?_ (fun i _ => ?_)) <;> first | omega | exact Nat.le_of_ble_eq_true rfl | dsimp only)
   | ((with_reducible refine tot_next hb ?_ ?_ (fun v _ _ => ?_)) <;> first | omega | exact Nat.le_of_ble_eq_true rfl | dsimp only)
   | ((with_reducible refine tot_bent hf hb ?_ ?_ (fun m p' r' f' _ _ _ => ?_)) <;> first | omega | exact Nat.le_of_ble_eq_true rfl | dsimp only)
 refine tot_chance hb (by omega) (by omega) (fun k => ?_)
 dsimp only
 refine tot_bif (fun _ => ?_) (fun _ => ?_)
 rotate_left
 ·repeat' first
   | ((with_reducible refine tot_isSome ?_); refine tot_node ?_ ?_ ?_ ?_ ?_ ?_ <;> omega)
   | ((with_reducible refine tot_ok ?_ ?_) <;> first | (simp only [Bool.and_eq_true, decide_eq_true_eq]; omega) | skip)
   | (with_reducible refine tot_bif (fun _ => ?_) (fun _ => ?_))
   | ((with_reducible refine tot_pick ?_ hb ?_ ?_ (fun i _ => ?_)) <;> first | omega | exact Nat.le_of_ble_eq_true rfl | dsimp only)
   | ((with_reducible refine tot_next hb ?_ ?_ (fun v _ _ => ?_)) <;> first | omega | exact Nat.le_of_ble_eq_true rfl | dsimp only)
   | ((with_reducible refine tot_bent hf hb ?_ ?_ (fun m p' r' f' _ _ _ => ?_)) <;> first | omega | exact Nat.le_of_ble_eq_true rfl | dsimp only)
 refine tot_chance hb (by omega) (by omega) (fun k => ?_)
 dsimp only
 refine tot_bif (fun _ => ?_) (fun _ => ?_)
 ·repeat' first
   | ((with_reducible refine tot_isSome ?_); refine tot_node ?_ ?_ ?_ ?_ ?_ ?_ <;> omega)
   | ((with_reducible refine tot_ok ?_ ?_) <;> first | (simp only [Bool.and_eq_true, decide_eq_true_eq]; omega) | skip)
   | (with_reducible refine tot_bif (fun _ => ?_) (fun _ => ?_))
   | ((with_reducible refine tot_pick ?_ hb ?_ ?_ (fun i _ => ?_)) <;> first | omega | exact Nat.le_of_ble_eq_true rfl | dsimp only)
   | ((with_reducible refine tot_next hb ?_ ?_ (fun v _ _ => ?_)) <;> first | omega | exact Nat.le_of_ble_eq_true rfl | dsimp only)
   | ((with_reducible refine tot_bent hf hb ?_ ?_ (fun m p' r' f' _ _ _ => ?_)) <;> first | omega | exact Nat.le_of_ble_eq_true rfl | dsimp only)
 ·
  refine tot_loop (fun m (v : Int × Nat × Nat × Nat × (Nat → Int) × Nat × (Nat → Int)) => v.1 = p - (m : Int) ∧ (v.2.1 : Int) = v.1 ∧ (v.2.2.1 : Int) = v.1) (fun m v go hI hgo => ?_) (fun v go hI => ?_) p.toNat fu _ (by omega) ⟨by dsimp only; omega, rfl, rfl⟩
  ·obtain ⟨i, q1, q2, m1, g1, m2, g2⟩ := v
   obtain ⟨e1, e2, e3⟩ := hI
   dsimp only at e1 e2 e3 ⊢
   unfold F_spec_l8Node_M_i0_B0
   have hlt : i < p := by omega
   have hw : IntKind.wrap .i64 (i + 1) = i + 1 := wrap64 (by omega) (by omega)
   simp only [hlt, decide_true, cond_true, hw]
   refine tot_ok (by simp only [Bool.and_eq_true, decide_eq_true_eq]; omega) (tot_ok (by simp only [Bool.and_eq_true, decide_eq_true_eq]; omega) (hgo _ ⟨?_, ?_, ?_⟩)) <;> dsimp only <;> omega
  ·obtain ⟨i, q1, q2, m1, g1, m2, g2⟩ := v
   obtain ⟨e1, e2, e3⟩ := hI
   dsimp only at e1 e2 e3 ⊢
   unfold F_spec_l8Node_M_i0_B0
   have hlt : ¬ i < p := by omega
   simp only [hlt, decide_false, cond_false]
   refine tot_chk (by simp only [Bool.and_eq_true, decide_eq_true_eq]; omega) ?_
   rw [t_specAgree3 hf (show n ≤ 1048576 by omega) (show q2 ≤ 1048576 by omega) c0 (show c ≤ (n : Int) by omega) rfl]
   refine tot_max (fun z => ?_)
   refine tot_loop (fun m (v : Int × Sl Int × Int × (Nat → Int) × (Nat → Int)) => v.1 = (q2 : Int) - (m : Int) ∧ 0 ≤ v.1 ∧ v.2.1 = b1 ∧ a1 ≤ v.2.2.1 ∧ v.2.2.1 ≤ a1 + 10 + 2 * v.1) (fun m v go hI hgo => ?_) (fun v go hI => ?_) q2 fu _ (by omega) ⟨by dsimp only; omega, Int.le_refl _, rfl, by dsimp only; omega, by dsimp only; omega⟩
   ·obtain ⟨i, b', a', g3, g4⟩ := v
    obtain ⟨r1, r2, r3, r4, r5⟩ := hI
    dsimp only at r1 r2 r3 r4 r5 ⊢
    subst r3
    unfold F_spec_l8Node_M_B0
    have hlt : i < (q2 : Int) := by omega
    have hw : IntKind.wrap .i64 (i + 1) = i + 1 := wrap64 (by omega) (by omega)
    have x1 : (decide (0 ≤ i) && decide (i.toNat < q1)) = true := by simp only [Bool.and_eq_true, decide_eq_true_eq]; omega
    have x2 : (decide (0 ≤ i) && decide (i.toNat < q2)) = true := by simp only [Bool.and_eq_true, decide_eq_true_eq]; omega
    simp only [hlt, decide_true, cond_true, hw]
    refine tot_next hb (by omega) (by omega) (fun v _ _ => ?_)
    refine tot_chk x1 (tot_chk x1 ?_)
    refine tot_next hb (by dsimp only; omega) (by dsimp only; omega) (fun v _ _ => ?_)
    refine tot_chk x2 (hgo _ ⟨?_, ?_, rfl, ?_, ?_⟩) <;> dsimp only <;> omega
   ·obtain ⟨i, b', a', g3, g4⟩ := v
    obtain ⟨r1, r2, r3, r4, r5⟩ := hI
    dsimp only at r1 r2 r3 r4 r5 ⊢
    subst r3
    unfold F_spec_l8Node_M_B0
    have hlt : ¬ i < (q2 : Int) := by omega
    simp only [hlt, decide_false, cond_false]
    repeat' first
     | ((with_reducible refine tot_isSome ?_); refine tot_node ?_ ?_ ?_ ?_ ?_ ?_ <;> omega)
     | ((with_reducible refine tot_ok ?_ ?_) <;> first | (simp only [Bool.and_eq_true, decide_eq_true_eq]; omega) | skip)
     | (with_reducible refine tot_bif (fun _ => ?_) (fun _ => ?_))
     | ((with_reducible refine tot_pick ?_ hb ?_ ?_ (fun i _ => ?_)) <;> first | omega | exact Nat.le_of_ble_eq_true rfl | dsimp only)
     | ((with_reducible refine tot_next hb ?_ ?_ (fun v _ _ => ?_)) <;> first | omega | exact Nat.le_of_ble_eq_true rfl | dsimp only)
     | ((with_reducible refine tot_bent hf hb ?_ ?_ (fun m p' r' f' _ _ _ => ?_)) <;> first | omega | exact Nat.le_of_ble_eq_true rfl | dsimp only)
theorem d_DrawAskNode {fu : Nat} (hf : 2000000 ≤ fu) {b : Sl Int} (hb : Src b) : Tot (fun y => NodeLen y.1) (F_spec_DrawAskNode fu b) := by
 unfold F_spec_DrawAskNode F_spec_l1Source_M
 simp only [Option.bind_some]
 refine tot_bind (d_l8Node hf hb (Int.le_refl 0) (by decide)) (fun y hy => ?_)
 obtain ⟨y1, y2, y3, y4, n1, y6, y7, n2, n3, n4, b1, a1, r1, f1, r2, f2, r3, f3, r4, f4⟩ := y
 obtain ⟨e1, e2, e3, e4, e5, e6, e7⟩ := hy
 dsimp only at e1 e2 e3 e4 e5 e6 e7 ⊢
 subst e5
 refine tot_max (fun z => ?_)
 refine tot_bind (d_l7Entry fu z hb (by omega) (by omega)) (fun y hy => ?_)
 obtain ⟨x1, x2, x3, x4, x5, x6, x7, x8, x9, b2, a2⟩ := y
 obtain ⟨g1, g2, g3⟩ := hy
 dsimp only at g1 g2 g3 ⊢
 subst g1
 refine tot_chance hb (by omega) (by omega) (fun c => ?_)
 dsimp only
 have hN : ∀ a b c d e g, NodeLen ⟨a, b, c, d, ⟨none, n1, f1⟩, e, g, ⟨none, n2, f2⟩, ⟨none, n3, f3⟩, ⟨none, n4, f4⟩⟩ := fun _ _ _ _ _ _ => ⟨show n1 ≤ 1048576 by omega, show n2 ≤ 1048576 by omega, show n3 ≤ 1048576 by omega, show n4 ≤ 1048576 by omega⟩
 refine tot_bif (fun _ => ?_) (fun _ => tot_some (hN _ _ _ _ _ _))
 refine tot_pick (Nat.le_of_ble_eq_true rfl) hb (by omega) (by omega) (fun i _ => ?_)
 exact tot_some (hN _ _ _ _ _ _)
theorem timeR_code {x : S_impl_Node} (h : ((timeR x).1 == 0) = true) : (nodef x != 0) = false ∧ (x.Role == 2) = false ∧ (x.Term == 100000) = false ∧
  timeR x = bif decide ((2 : Int) > x.Peers) then nodeT 0 (leadN x) (nA x x.Peers.toNat) (fA x (mailV x) x.Peers.toNat) else nodeT 0 (candN x) (nA x x.Peers.toNat) (fA x (mailV x) x.Peers.toNat) := by
 unfold timeR at h ⊢
 cases h1 : (nodef x != 0) with
 | true =>
  rw [h1] at h
  have h : (nodef x == 0) = true := h
  rw [bne, h] at h1; cases h1
 | false =>
 rw [h1] at h
 cases h2 : (x.Role == 2) with
 | true => rw [h2] at h; cases h
 | false =>
 rw [h2] at h
 cases h3 : (x.Term == 100000) with
 | true => rw [h3] at h; cases h
 | false => exact ⟨rfl, rfl, rfl, rfl⟩
theorem nA_all {x : S_impl_Node} (hp : 1 ≤ x.Peers ∧ x.Peers ≤ 5) (hi : 0 ≤ x.Id ∧ x.Id < x.Peers) : ((nA x x.Peers.toNat : Nat) : Int) = IntKind.wrap .i64 (x.Peers - 1) := by
 rw [nA_eq hi.1, if_pos (by omega), wrap64 (by omega) (by omega)]
 omega
theorem time_ok {fu : Nat} (hf : 2000000 ≤ fu) {x : S_impl_Node} (hx : NodeLen x) (h : ((timeR x).1 == 0) = true) : ∃ nd mf, timeR x = nodeT 0 nd (nA x x.Peers.toNat) mf ∧
  F_impl_NodeFault fu ⟨nd.Id, nd.Peers, nd.Term, nd.Voted, ⟨none, nd.Log.n, nd.Log.f⟩, nd.Role, nd.Commit, ⟨none, nd.Votes.n, nd.Votes.f⟩, ⟨none, nd.Next.n, nd.Next.f⟩, ⟨none, nd.Match.n, nd.Match.f⟩⟩ = some 0 ∧
  nd.Term = IntKind.wrap .i64 (x.Term + 1) ∧ nd.Voted = x.Id ∧ ((nA x x.Peers.toNat : Nat) : Int) = IntKind.wrap .i64 (x.Peers - 1) := by
 obtain ⟨h1, h2, h3, he⟩ := timeR_code h
 have hR := nodef_right h1
 have hn := nA_all hR.peers hR.id
 cases h4 : decide ((2 : Int) > x.Peers) with
 | true =>
  rw [h4] at he
  have hl : NodeLen (leadN x) := ⟨hx.log, Nat.zero_le _, show 1 ≤ 1048576 by omega, show 1 ≤ 1048576 by omega⟩
  exact ⟨leadN x, _, he, (i_NodeFault hf (leadN x) hl).trans (by rw [time_lead h1 h3 h4]), rfl, rfl, hn⟩
 | false =>
  rw [h4] at he
  have hl : NodeLen (candN x) := ⟨hx.log, show 1 ≤ 1048576 by omega, hx.next, hx.mat⟩
  exact ⟨candN x, _, he, (i_NodeFault hf (candN x) hl).trans (by rw [time_cand h1 h2 h3]), rfl, rfl, hn⟩
def askPart (fu : Nat) (n : S_impl_Node) (e : S_impl_Entry) : Option Bool :=
 ((F_impl_AskNode_U fu n e).bind fun y433 =>
  (bif (y433.1 != 0) then ((F_spec_AskNode_U fu n e).bind fun y434 => (some (y434.1 == y433.1))) else ((F_impl_SpreadNode_U fu (⟨y433.2.1, y433.2.2.1, y433.2.2.2.1,
  y433.2.2.2.2.1, (⟨none, y433.2.2.2.2.2.1, y433.2.2.2.2.2.2.2.2.2.2.2.2.2.1⟩ : (Sl S_impl_Entry)), y433.2.2.2.2.2.2.1, y433.2.2.2.2.2.2.2.1, (⟨none, y433.2.2.2.2.2.2.2.2.1,
  y433.2.2.2.2.2.2.2.2.2.2.2.2.2.2.2.1⟩ : (Sl Int)), (⟨none, y433.2.2.2.2.2.2.2.2.2.1, y433.2.2.2.2.2.2.2.2.2.2.2.2.2.2.2.2.2.1⟩ : (Sl Int)), (⟨none, y433.2.2.2.2.2.2.2.2.2.2.1,
  y433.2.2.2.2.2.2.2.2.2.2.2.2.2.2.2.2.2.2.2.1⟩ : (Sl Int))⟩ : S_impl_Node)).bind fun y435 => ((((F_impl_NodeFault fu (⟨y433.2.1, y433.2.2.1, y433.2.2.2.1, y433.2.2.2.2.1, (⟨none,
  y433.2.2.2.2.2.1, y433.2.2.2.2.2.2.2.2.2.2.2.2.2.1⟩ : (Sl S_impl_Entry)), y433.2.2.2.2.2.2.1, y433.2.2.2.2.2.2.2.1, (⟨none, y433.2.2.2.2.2.2.2.2.1,
  y433.2.2.2.2.2.2.2.2.2.2.2.2.2.2.2.1⟩ : (Sl Int)), (⟨none, y433.2.2.2.2.2.2.2.2.2.1, y433.2.2.2.2.2.2.2.2.2.2.2.2.2.2.2.2.2.1⟩ : (Sl Int)), (⟨none, y433.2.2.2.2.2.2.2.2.2.2.1,
  y433.2.2.2.2.2.2.2.2.2.2.2.2.2.2.2.2.2.2.2.1⟩ : (Sl Int))⟩ : S_impl_Node)).bind fun y436 => (bif (y436 == 0) then ((F_impl_LastOf fu (⟨none, y433.2.2.2.2.2.1,
  y433.2.2.2.2.2.2.2.2.2.2.2.2.2.1⟩ : (Sl S_impl_Entry))).bind fun y437 => (bif ((y437.Term == e.Term) && ((y437.Client == e.Client) && ((y437.Seq == e.Seq) &&
  ((y437.Cmd.Kind == e.Cmd.Kind) && ((y437.Cmd.Expect == e.Cmd.Expect) && ((y437.Cmd.Name == e.Cmd.Name) && ((y437.Cmd.Addr == e.Cmd.Addr) && ((y437.Cmd.Number == e.Cmd.Number) &&
  ((y437.Cmd.Proto == e.Cmd.Proto) && true))))))))) then (bif (((y433.2.2.2.2.2.1 : Nat) : Int) == (IntKind.wrap .i64 (((n.Log.n : Nat) : Int) + 1))) then (bif (y435.1 == 0) then
  (bif (((y435.2.2.2.2.2.2.2.2.2.2.2.1 : Nat) : Int) == (IntKind.wrap .i64 (n.Peers - 1))) then (bif (decide (n.Peers > 1)) then (some true) else (some (y433.2.2.2.2.2.2.2.1 == ((y433.2.2.2.2.2.1 : Nat) : Int)))) else
  (some false)) else (some false)) else (some false)) else (some false))) else (some false))) : Option Bool).bind fun m438 => (some m438)))))
theorem askPart_ok {n : S_impl_Node} {e : S_impl_Entry} (hN : NodeLen n) : askPart plainFuel n e = some true := by
 unfold askPart
 rw [i_AskNodeU pf n e hN]
 simp only [Option.bind_some]
 cases ha : ((askT n e).1 != 0) with
 | true => simp only [cond_true, s_AskNodeU pf n e hN, Option.bind_some, beq_self_eq_true]
 | false =>
  obtain ⟨he, a1, a2, a3, a4, a5⟩ := askT_ok ha
  simp only [cond_false]
  rw [he]
  have hR := nodef_right a1
  have hA := ask_right a1 a2 a3 a4 a5
  have hL := askN_len (e := e) hN a5
  have hF : F_impl_NodeFault plainFuel (askN n e) = some 0 := by rw [i_NodeFault pf _ hL, hA]
  have hS : F_impl_SpreadNode_U plainFuel (askN n e) = some (nodeT 0 (freshN (askN n e)) (nA (askN n e) (askN n e).Peers.toNat) (fA (askN n e) (mailA (askN n e)) (askN n e).Peers.toNat)) := by
   rw [i_SpreadNode pf _ hL]
   unfold spreadR
   have e2 : ((askN n e).Role != 2) = false := a2
   rw [hA, e2]
   rfl
  have hLa : F_impl_LastOf plainFuel ⟨none, (askN n e).Log.n, (askN n e).Log.f⟩ = some e := by
   unfold F_impl_LastOf
   rw [i_last plainFuel (⟨none, (askN n e).Log.n, (askN n e).Log.f⟩ : Sl S_impl_Entry) hL.log]
   simp only [Option.bind_some]
   rw [lastE_some (show 0 < (⟨none, (askN n e).Log.n, (askN n e).Log.f⟩ : Sl S_impl_Entry).n from Nat.succ_pos _)]
   show some (behindE n.Log e (n.Log.n + 1 - 1)) = some e
   rw [Nat.add_sub_cancel, behindE_new]
  have hz : (⟨(askN n e).Id, (askN n e).Peers, (askN n e).Term, (askN n e).Voted, ⟨none, (askN n e).Log.n, (askN n e).Log.f⟩, (askN n e).Role, (askN n e).Commit, ⟨none, (askN n e).Votes.n, (askN n e).Votes.f⟩, ⟨none, (askN n e).Next.n, (askN n e).Next.f⟩, ⟨none, (askN n e).Match.n, (askN n e).Match.f⟩⟩ : S_impl_Node) = askN n e := rfl
  have hn : (((nA (askN n e) (askN n e).Peers.toNat : Nat) : Int) == IntKind.wrap .i64 (n.Peers - 1)) = true := by
   rw [nA_all (x := askN n e) hR.peers hR.id]
   exact beq_self_eq_true _
  have hl : ((((askN n e).Log.n : Nat) : Int) == IntKind.wrap .i64 ((n.Log.n : Int) + 1)) = true := by
   rw [wrap64 (by omega) (by omega)]
   exact beq_self_eq_true _
  simp only [nodeT, hz, hF, hS, hLa, hn, hl, Option.bind_some, beq_self_eq_true, Bool.and_self, Bool.and_true, cond_true]
  cases hq : decide (n.Peers > 1) with
  | true => rfl
  | false =>
   have hq := of_decide_eq_false hq
   have hp := hR.peers
   have hcm : ((askN n e).Commit == (((askN n e).Log.n : Nat) : Int)) = true := by
    rw [ask_commit a1 a2 a4 (by omega)]
    exact beq_self_eq_true _
   simp only [cond_false, hcm, Option.bind_some]
theorem plain_FnAsks (x : Sl Int) (w : W_sl_u8 x) : F_laws_FnAsks plainFuel x = some true := by
 unfold F_laws_FnAsks F_laws_lwBig
 simp only [Option.bind_some]
 by_cases hb : (x.n : Int) > 1048576
 ·simp only [hb, decide_true, cond_true]
 simp only [hb, decide_false, cond_false]
 obtain ⟨⟨n, e⟩, hd, hN⟩ := d_DrawAskNode pf (src_of w (by omega))
 have hN : NodeLen n := hN
 simp only [hd, Option.bind_some, i_TimeoutNode pf n hN, s_TimeoutNode pf n hN, bne_self_eq_false, cond_false]
 cases hc : ((timeR n).1 == 0) with
 | false => exact askPart_ok hN
 | true =>
  obtain ⟨nd, mf, ht, hF, hT, hV, hS⟩ := time_ok pf hN hc
  rw [ht]
  simp only [nodeT, cond_true]
  simp only [hF, Option.bind_some, bne_self_eq_false, cond_false]
  simp only [hT, hV, hS, bne_self_eq_false, cond_false]
  exact askPart_ok hN
end Go.Proofs.Ytjdgfkmiaikegaa.Pe

