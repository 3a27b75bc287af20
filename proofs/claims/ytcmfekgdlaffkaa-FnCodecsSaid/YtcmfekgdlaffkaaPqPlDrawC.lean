/- Plain laws of what FnCodecs draws: commands. Conditions: none. -/
import Derived.Test.YtcmfekgdlaffkaaPqPlCod2
import Derived.Test.YtcmfekgdlaffkaaPqPlDraw
namespace Go.Proofs.Ytcmfekgdlaffkaa.Pq
open Go Go.RowKit Go.Proofs Vm
set_option linter.unusedVariables false
set_option linter.unusedSimpArgs false
set_option maxRecDepth 100000
def Tot {α : Type} (P : α → Prop) (x : Option α) : Prop := ∃ y, x = some y ∧ P y
theorem tot_some {α : Type} {P : α → Prop} {y : α} (h : P y) : Tot P (some y) := ⟨y, rfl, h⟩
theorem tot_bif {α : Type} {P : α → Prop} {c : Bool} {x y : Option α} (hx : c = true → Tot P x) (hy : c = false → Tot P y) : Tot P (bif c then x else y) := by
  cases c
  · exact hy rfl
  · exact hx rfl
theorem tot_chk {α : Type} {P : α → Prop} {c : Bool} {k : Unit → Option α} (hc : c = true) (h : Tot P (k ())) : Tot P ((bif c then some () else none : Option Unit).bind k) := by
  subst hc; exact h
theorem tot_bind {α β : Type} {P : α → Prop} {Q : β → Prop} {x : Option β} {k : β → Option α} (hx : Tot Q x) (h : ∀ y, Q y → Tot P (k y)) : Tot P (x.bind k) := by
  obtain ⟨y, rfl, hq⟩ := hx
  exact h y hq
theorem tot_mono {α : Type} {P Q : α → Prop} {x : Option α} (hx : Tot P x) (h : ∀ y, P y → Q y) : Tot Q x := by
  obtain ⟨y, e, hp⟩ := hx
  exact ⟨y, e, h y hp⟩
theorem tot_next {α : Type} {P : α → Prop} {fu : Nat} {b : Sl Int} {a n : Int} {k : Int × Sl Int × Int → Option α} (hb : Src b) (h0 : 0 ≤ a) (h1 : a ≤ 1000000000) (h : ∀ v, 0 ≤ v → (1 ≤ n → v < n) → Tot P (k (v, b, a + 1))) : Tot P ((F_spec_l1Next_M fu n b a).bind k) := by
  obtain ⟨v, e, v0, v1, _⟩ := d_Next fu n hb h0 h1
  rw [e]
  exact h v v0 v1
theorem tot_chance {α : Type} {P : α → Prop} {fu : Nat} {b : Sl Int} {a n : Int} {k : Bool × Sl Int × Int → Option α} (hb : Src b) (h0 : 0 ≤ a) (h1 : a ≤ 1000000000) (h : ∀ v, Tot P (k (v, b, a + 1))) : Tot P ((F_spec_l1Chance_M fu n b a).bind k) := by
  obtain ⟨v, e⟩ := d_Chance fu n hb h0 h1
  rw [e]
  exact h v
theorem tot_pick {α : Type} {P : α → Prop} {fu : Nat} {b l : Sl Int} {a : Int} {k : Int × Sl Int × Int → Option α} (hl : 1 ≤ l.n) (hb : Src b) (h0 : 0 ≤ a) (h1 : a ≤ 1000000000) (h : ∀ i, i < l.n → Tot P (k (l.f i, b, a + 1))) : Tot P ((F_spec_l1Pick_M fu l b a).bind k) := by
  obtain ⟨i, hi, e⟩ := d_Pick fu hl hb h0 h1
  rw [e]
  exact h i hi
theorem tot_needs {α : Type} {P : α → Prop} {fu : Nat} {n : Int} {k : Bool × Bool × Bool × Bool → Option α} (h : ∀ v, Tot P (k v)) : Tot P ((F_spec_l5Needs fu n).bind k) := by
  obtain ⟨v, e⟩ := p_l5Needs fu n
  rw [e]
  exact h v
def CmdP (b : Sl Int) (a m : Int) (y : Int × Int × Int × Int × Int × Int × Sl Int × Int) : Prop := y.2.2.2.2.2.2.1 = b ∧ a ≤ y.2.2.2.2.2.2.2 ∧ y.2.2.2.2.2.2.2 ≤ a + m
theorem d_l5Cmd (fu : Nat) {b : Sl Int} {a : Int} (hb : Src b) (h0 : 0 ≤ a) (h1 : a ≤ 900000000) : Tot (CmdP b a 20) (F_spec_l5Cmd_M fu b a) := by
  unfold F_spec_l5Cmd_M F_spec_l5Cmd_M_t0 F_spec_l5Cmd_M_t1 F_spec_l5Cmd_M_t2 F_spec_l5Cmd_M_t3 F_spec_l5Cmd_M_t4 F_spec_l5Cmd_M_t5 F_spec_l5Cmd_M_t6
  refine tot_pick (Nat.le_of_ble_eq_true rfl) hb h0 (by omega) (fun i _ => ?_)
  refine tot_next hb (by dsimp only; omega) (by dsimp only; omega) (fun v _ _ => ?_)
  refine tot_next hb (by dsimp only; omega) (by dsimp only; omega) (fun v _ _ => ?_)
  refine tot_pick (Nat.le_of_ble_eq_true rfl) hb (by dsimp only; omega) (by dsimp only; omega) (fun i _ => ?_)
  dsimp only
  generalize [1, 1, 2, 3, 4, 5, 6, 7, 7, 7, 8, 9].getD _ _ = kd
  repeat' first
    | refine tot_some ⟨rfl, ?_, ?_⟩ <;> (dsimp only; omega)
    | refine tot_bif (fun _ => ?_) (fun _ => ?_)
    | (refine tot_needs (fun v => ?_); try dsimp only)
    | (refine tot_chance hb (by omega) (by omega) (fun v => ?_); try dsimp only)
    | (refine tot_next hb (by omega) (by omega) (fun v _ _ => ?_); try dsimp only)
theorem d_l5BentCmd (fu : Nat) {b : Sl Int} {a : Int} (hb : Src b) (h0 : 0 ≤ a) (h1 : a ≤ 800000000) : Tot (CmdP b a 30) (F_spec_l5BentCmd_M fu b a) := by
  unfold F_spec_l5BentCmd_M
  refine tot_bind (d_l5Cmd fu hb h0 (by omega)) (fun y hy => ?_)
  obtain ⟨e, k1, k2⟩ := hy
  obtain ⟨y1, y2, y3, y4, y5, y6, b', a'⟩ := y
  dsimp only at e k1 k2 ⊢
  subst e
  refine tot_next hb (by omega) (by omega) (fun v _ _ => ?_)
  dsimp only
  repeat' first
    | refine tot_some ⟨rfl, ?_, ?_⟩ <;> (dsimp only; omega)
    | refine tot_bif (fun _ => ?_) (fun _ => ?_)
    | (refine tot_pick (Nat.le_of_ble_eq_true rfl) hb (by omega) (by omega) (fun i _ => ?_); try dsimp only)
    | (refine tot_next hb (by omega) (by omega) (fun v _ _ => ?_); try dsimp only)
theorem tot_loop {V ρ : Type} {P : ρ → Prop} {B : V → (V → Option ρ) → Option ρ} (I : Nat → V → Prop) (h1 : ∀ m v go, I (m + 1) v → (∀ v', I m v' → Tot P (go v')) → Tot P (B v go)) (h0 : ∀ v go, I 0 v → Tot P (B v go)) : ∀ (m fu : Nat) (v : V), m < fu → I m v → Tot P (L B fu v)
  | 0, fu, v, hf, hi => by
    obtain ⟨fu, rfl⟩ : ∃ k, fu = k + 1 := ⟨fu - 1, by omega⟩
    exact h0 v _ hi
  | m + 1, fu, v, hf, hi => by
    obtain ⟨fu, rfl⟩ : ∃ k, fu = k + 1 := ⟨fu - 1, by omega⟩
    exact h1 m v _ hi (fun v' hv' => tot_loop I h1 h0 m fu v' (by omega) hv')
theorem wrapU8 (x : Int) : 0 ≤ IntKind.wrap .u8 x ∧ IntKind.wrap .u8 x ≤ 255 := by
  have : IntKind.wrap .u8 x = x % 256 := by simp [IntKind.wrap, IntKind.bits, IntKind.signed]
  rw [this]; omega
def BytL (L : List Int) : Prop := ∀ x ∈ L, 0 ≤ x ∧ x ≤ 255
theorem byL_byt (v : Int) (k i : Nat) : BytL (byL v k i) := fun x hx => by
  simp only [byL, List.mem_map] at hx
  obtain ⟨j, _, rfl⟩ := hx
  exact wrapU8 _
theorem BytL.app {L M : List Int} (h : BytL L) (k : BytL M) : BytL (L ++ M) := fun x hx => (List.mem_append.1 hx).elim (h x) (k x)
theorem BytL.nil : BytL [] := fun x hx => absurd hx List.not_mem_nil
theorem BytL.cons {v : Int} {L : List Int} (h : 0 ≤ v ∧ v ≤ 255) (k : BytL L) : BytL (v :: L) := fun x hx => by
  rcases List.mem_cons.1 hx with rfl | hx
  · exact h
  · exact k x hx
theorem Bs.byt {L : List Int} {n : Nat} {f : Nat → Int} (h : Bs L n f) (hL : BytL L) : Byt n f := fun i hi => by
  rw [h.at_ i hi, List.getD_eq_getElem?_getD, List.getElem?_eq_getElem (by rw [← h.len]; exact hi), Option.getD_some]
  exact hL _ (List.getElem_mem _)
theorem cmdL_byt (x : S_impl_Cmd) : BytL (cmdL x) := ((((BytL.nil.cons (wrapU8 _)).app (byL_byt _ _ _)).app (byL_byt _ _ _)).app (byL_byt _ _ _)).app (byL_byt _ _ _) |>.app (BytL.nil.cons (wrapU8 _))
theorem backsL_byt (f : Nat → S_impl_Backend) : ∀ m i, BytL (backsL f i m)
  | 0, i => BytL.nil
  | m + 1, i => (((byL_byt _ _ _).app (byL_byt _ _ _)).app (BytL.nil.cons (wrapU8 _))).app (backsL_byt f m (i + 1))
theorem namesL_byt (f : Nat → Int) : ∀ m i, BytL (namesL f i m)
  | 0, i => BytL.nil
  | m + 1, i => (byL_byt _ _ _).app (namesL_byt f m (i + 1))
theorem vipL_byt (v : S_impl_Vip) : BytL (vipL v) := (((byL_byt _ _ _).app (byL_byt _ _ _)).app ((BytL.nil.cons (wrapU8 _)).cons (wrapU8 _))).app (namesL_byt _ _ _)
theorem vipsL_byt (f : Nat → S_impl_Vip) : ∀ m i, BytL (vipsL f i m)
  | 0, i => BytL.nil
  | m + 1, i => (vipL_byt _).app (vipsL_byt f m (i + 1))
theorem confL_byt (c : S_impl_Config) : BytL (confL c) := ((((byL_byt _ _ _).app (BytL.nil.cons (wrapU8 _))).app (backsL_byt _ _ _)).app (BytL.nil.cons (wrapU8 _))).app (vipsL_byt _ _ _)
def turnT (fu : Nat) (n : Nat) (f : Nat → Int) (b : Sl Int) (a : Int) : Option (Sl Int) :=
  bif (((n : Nat) : Int) == 0) then some ⟨none, n, f⟩ else (F_spec_l1Chance_M fu 3 b a).bind fun y378 => bif (!y378.1) then some ⟨none, n, f⟩ else (F_spec_l1Next_M fu ((n : Nat) : Int) y378.2.1 y378.2.2).bind fun y379 => (F_spec_l1Next_M fu 3 y379.2.1 y379.2.2).bind fun y380 =>
    bif (y380.1 == 0) then ((F_spec_l1Next_M fu 256 y380.2.1 y380.2.2).bind fun y381 => (bif (decide (0 ≤ y379.1) && decide ((Int.toNat y379.1) < n)) then some () else none : Option Unit).bind fun _ => some ⟨none, n, (fun j => if j = (Int.toNat y379.1) then (IntKind.wrap .u8 y381.1) else f j)⟩)
    else bif (y380.1 == 1) then ((bif (decide (0 ≤ y379.1) && decide ((Int.toNat y379.1) ≤ n)) then some () else none : Option Unit).bind fun _ => some ⟨none, (Int.toNat y379.1), f⟩)
    else bif (y380.1 == 2) then (bif (decide ((n + 1) ≤ 9223372036854775807) && decide ((n + 1) * 1 ≤ 140737488355328)) then some ⟨none, (n + 1), (fun i => if i < n then (f i) else ((fun i => ([0] : List (Int)).getD i (dflt .u8)) (i - n)))⟩ else none)
    else some ⟨none, n, f⟩
theorem d_turn (fu : Nat) {n : Nat} {f : Nat → Int} {b : Sl Int} {a : Int} (hy : Byt n f) (hn : n ≤ 1000000) (hb : Src b) (h0 : 0 ≤ a) (h1 : a ≤ 900000000) : Tot Rows1 (turnT fu n f b a) := by
  have hs : Rows1 ⟨none, n, f⟩ := ⟨hy, by dsimp only; omega⟩
  unfold turnT
  refine tot_bif (fun _ => tot_some hs) (fun hz => ?_)
  have hz : ¬ ((n : Nat) : Int) = 0 := by simpa using hz
  refine tot_chance hb h0 (by omega) (fun v => ?_)
  dsimp only
  refine tot_bif (fun _ => tot_some hs) (fun _ => ?_)
  refine tot_next hb (by omega) (by omega) (fun v1 p q => ?_)
  have q := q (by omega)
  dsimp only
  refine tot_next hb (by omega) (by omega) (fun v2 _ _ => ?_)
  dsimp only
  refine tot_bif (fun _ => ?_) (fun _ => ?_)
  · refine tot_next hb (by omega) (by omega) (fun v3 _ _ => ?_)
    dsimp only
    refine tot_chk (by simp only [Bool.and_eq_true, decide_eq_true_eq]; omega) (tot_some ⟨fun i hi => ?_, ?_⟩)
    · show 0 ≤ (if i = v1.toNat then IntKind.wrap .u8 v3 else f i) ∧ (if i = v1.toNat then IntKind.wrap .u8 v3 else f i) ≤ 255
      split
      · exact wrapU8 _
      · exact hy i hi
    · dsimp only; omega
  refine tot_bif (fun _ => ?_) (fun _ => ?_)
  · refine tot_chk (by simp only [Bool.and_eq_true, decide_eq_true_eq]; omega) (tot_some ⟨fun i hi => hy i ?_, ?_⟩)
    · dsimp only at hi; omega
    · dsimp only; omega
  refine tot_bif (fun _ => ?_) (fun _ => tot_some hs)
  refine tot_bif (fun _ => tot_some ⟨fun i hi => ?_, ?_⟩) (fun hc => ?_)
  · show 0 ≤ (if i < n then f i else ([0] : List Int).getD (i - n) (dflt .u8)) ∧ (if i < n then f i else ([0] : List Int).getD (i - n) (dflt .u8)) ≤ 255
    split
    · next h => exact hy i h
    · have : i - n = 0 := by dsimp only at hi; omega
      rw [this]; exact ⟨Int.le_refl 0, by decide⟩
  · dsimp only; omega
  · rw [fin_ok (n := n + 1) (by omega)] at hc; cases hc
theorem d_UnpackCmd {fu : Nat} (hf : 2000000 ≤ fu) {b : Sl Int} (hb : Src b) : Tot Rows1 (F_spec_DrawUnpackCmd fu b) := by
  unfold F_spec_DrawUnpackCmd F_spec_l1Source_M
  simp only [Option.bind_some]
  refine tot_bind (d_l5Cmd fu hb (Int.le_refl 0) (by omega)) (fun y hy => ?_)
  obtain ⟨y1, y2, y3, y4, y5, y6, b', a'⟩ := y
  obtain ⟨e, k1, k2⟩ := hy
  dsimp only at e k1 k2 ⊢
  subst e
  obtain ⟨n, f, e, hB⟩ := s_packCmd hf ⟨y1, y2, y3, y4, y5, y6⟩
  have hn : n ≤ 1000000 := by rw [hB.len, cmdL_len]; omega
  rw [e]
  exact d_turn fu (hB.byt (cmdL_byt _)) hn hb k1 (by omega)
theorem d_PackCmd (fu : Nat) {b : Sl Int} (hb : Src b) : Tot (fun _ => True) (F_spec_DrawPackCmd fu b) := by
  unfold F_spec_DrawPackCmd F_spec_l1Source_M
  simp only [Option.bind_some]
  exact tot_bind (d_l5BentCmd fu hb (Int.le_refl 0) (by omega)) (fun y _ => tot_some trivial)
end Go.Proofs.Ytcmfekgdlaffkaa.Pq
