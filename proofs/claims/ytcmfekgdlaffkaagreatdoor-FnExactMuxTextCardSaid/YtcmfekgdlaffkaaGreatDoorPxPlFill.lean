/- Plain laws of tables that are filled. Conditions: none. -/
import Derived.Test.YtcmfekgdlaffkaaGreatDoorPxPlMach
namespace Go.Proofs.YtcmfekgdlaffkaaGreatDoor.Px
open Go Go.RowKit Go.Proofs Vm
set_option linter.unusedVariables false
set_option linter.unusedSimpArgs false
set_option maxRecDepth 100000

/-! ### Numbers mixed -/

theorem tmod_pos {n : Int} {m : Int} (h : 0 ≤ n) (hm : 0 < m) : 0 ≤ Int.tmod n m ∧ Int.tmod n m < m := ⟨Int.tmod_nonneg m h, Int.tmod_lt_of_pos n hm⟩
theorem tmod_near (n : Int) {m : Int} (hm : 0 < m) : -m < Int.tmod n m ∧ Int.tmod n m < m := by
  refine ⟨?_, Int.tmod_lt_of_pos n hm⟩
  by_cases h : 0 ≤ n
  · have := Int.tmod_nonneg m h; omega
  · have h1 : Int.tmod n m = -(Int.tmod (-n) m) := by rw [Int.neg_tmod]; omega
    have h2 := Int.tmod_lt_of_pos (-n) hm
    omega

def mod0 (n m : Int) : Int := Int.tmod (Int.tmod n m + m) m
theorem p_l3Mod (fu : Nat) (n m : Int) (h0 : 0 < m) (h1 : m ≤ 4294967296) : F_spec_l3Mod fu n m = some (mod0 n m) := by
  unfold F_spec_l3Mod mod0
  have hm : ¬ m = 0 := by omega
  obtain ⟨a, b⟩ := tmod_near n h0
  simp only [hm, decide_false, Bool.not_false, cond_true, Option.bind_some]
  rw [wrap64 (by omega) (by omega)]
theorem mod0_pos (n m : Int) (h0 : 0 < m) : 0 ≤ mod0 n m ∧ mod0 n m < m := by
  unfold mod0
  obtain ⟨a, b⟩ := tmod_near n h0
  exact tmod_pos (by omega) h0

/-- One round of a number that is mixed. -/
def mixB (x : Int × Int) : Int × Int := (Int.tdiv x.1 256, Int.tmod (x.2 * 131 + Int.tmod x.1 256 + 1) 1000003)
def mixv (n salt : Int) : Int := (mixB (mixB (mixB (mixB (mod0 n 4294967296, mod0 salt 10007 + 11))))).2
def mixI (x : Int × Int) : Prop := 0 ≤ x.1 ∧ x.1 < 4294967296 ∧ 0 ≤ x.2 ∧ x.2 < 1000003
theorem mixB_I {x : Int × Int} (h : mixI x) : mixI (mixB x) := by
  obtain ⟨h1, h2, h3, h4⟩ := h
  have e1 : Int.tdiv x.1 256 = x.1 / 256 := Int.tdiv_eq_ediv_of_nonneg h1
  have e2 := tmod_pos h1 (show (0 : Int) < 256 by omega)
  have e3 := tmod_pos (n := x.2 * 131 + Int.tmod x.1 256 + 1) (m := 1000003) (by omega) (by omega)
  unfold mixI mixB
  simp only [e1]
  exact ⟨by omega, by omega, e3.1, e3.2⟩
theorem mix0_I (n salt : Int) : mixI (mod0 n 4294967296, mod0 salt 10007 + 11) := by
  obtain ⟨a, b⟩ := mod0_pos n 4294967296 (by omega)
  obtain ⟨c, d⟩ := mod0_pos salt 10007 (by omega)
  exact ⟨a, b, by show 0 ≤ mod0 salt 10007 + 11; omega, by show mod0 salt 10007 + 11 < 1000003; omega⟩
theorem s_Mix {fu : Nat} (hf : 2000000 ≤ fu) (n salt : Int) : F_spec_MixNumber fu n salt = some (mixv n salt) := by
  unfold F_spec_MixNumber
  obtain ⟨c, d⟩ := mod0_pos salt 10007 (by omega)
  simp only [p_l3Mod fu salt 10007 (by omega) (by omega), p_l3Mod fu n 4294967296 (by omega) (by omega), Option.bind_some, wrap64 (show -9223372036854775808 ≤ mod0 salt 10007 + 11 by omega) (show mod0 salt 10007 + 11 ≤ 9223372036854775807 by omega)]
  obtain ⟨f, rfl⟩ : ∃ f, fu = f + 5 := ⟨fu - 5, by omega⟩
  have step : ∀ (x : Int × Int) (k : Int) (go : Int → Int → Int → Option Int), mixI x → 0 ≤ k → k < 4 → F_spec_MixNumber_B0 (f + 5) (fun z => some z) x.1 x.2 k go = go (mixB x).1 (mixB x).2 (k + 1) := by
    intro x k go h h0 h1
    obtain ⟨h2, h3, h4, h5⟩ := h
    unfold F_spec_MixNumber_B0
    have e1 : Int.tdiv x.1 256 = x.1 / 256 := Int.tdiv_eq_ediv_of_nonneg h2
    have e2 := tmod_pos h2 (show (0 : Int) < 256 by omega)
    simp only [h1, decide_true, cond_true]
    rw [Vm.wrap64 (x := Int.tdiv x.1 256) (by rw [e1]; omega) (by rw [e1]; omega), Vm.wrap64 (x := x.2 * 131) (by omega) (by omega), Vm.wrap64 (x := x.2 * 131 + Int.tmod x.1 256) (by omega) (by omega), Vm.wrap64 (x := x.2 * 131 + Int.tmod x.1 256 + 1) (by omega) (by omega), Vm.wrap64 (x := k + 1) (by omega) (by omega)]
    rfl
  have i0 := mix0_I n salt
  have i1 := mixB_I i0
  have i2 := mixB_I i1
  have i3 := mixB_I i2
  simp only [L]
  rw [step _ 0 _ i0 (by omega) (by omega)]
  rw [step _ (0 + 1) _ i1 (by omega) (by omega)]
  rw [step _ (0 + 1 + 1) _ i2 (by omega) (by omega)]
  rw [step _ (0 + 1 + 1 + 1) _ i3 (by omega) (by omega)]
  unfold F_spec_MixNumber_B0
  simp only [show ¬ ((0 : Int) + 1 + 1 + 1 + 1 < 4) by omega, decide_false, cond_false]
  rfl
theorem i_Mix {fu : Nat} (hf : 2000000 ≤ fu) (n salt : Int) : F_impl_MixNumber fu n salt = some (mixv n salt) := (show F_impl_MixNumber fu n salt = F_spec_MixNumber fu n salt from rfl).trans (s_Mix hf n salt)
theorem mixv_pos (n salt : Int) : 0 ≤ mixv n salt ∧ mixv n salt < 1000003 := by
  obtain ⟨a, b, c, d⟩ := mixB_I (mixB_I (mixB_I (mixB_I (mix0_I n salt))))
  exact ⟨c, d⟩

/-! ### Places -/

def off (name : Int) : Nat := (mixv name 3).toNat % 31
def skp (name : Int) : Nat := 1 + (mixv name 5).toNat % 30
def pl (name : Int) (k : Nat) : Nat := (off name + k * skp name) % 31
theorem off_lt (name : Int) : off name < 31 := Nat.mod_lt _ (by omega)
theorem skp_lt (name : Int) : 1 ≤ skp name ∧ skp name ≤ 30 := by
  have := Nat.mod_lt (mixv name 5).toNat (show 30 > 0 by omega)
  unfold skp; omega
theorem pl_lt (name : Int) (k : Nat) : pl name k < 31 := Nat.mod_lt _ (by omega)
theorem tmod_nat (a : Int) (m : Nat) (h : 0 ≤ a) (hm : 0 < m) : Int.tmod a (m : Int) = ((a.toNat % m : Nat) : Int) := by
  rw [Int.tmod_eq_emod_of_nonneg h]
  have : a = (a.toNat : Int) := by omega
  rw [this]
  simp
theorem s_Offset {fu : Nat} (hf : 2000000 ≤ fu) (name : Int) : F_spec_l3Offset fu name = some (off name : Int) := by
  unfold F_spec_l3Offset off
  simp only [s_Mix hf, Option.bind_some]
  rw [show (31 : Int) = ((31 : Nat) : Int) from rfl, tmod_nat _ 31 (mixv_pos name 3).1 (by omega)]
theorem s_Skip {fu : Nat} (hf : 2000000 ≤ fu) (name : Int) : F_spec_l3Skip fu name = some (skp name : Int) := by
  unfold F_spec_l3Skip skp
  simp only [s_Mix hf, Option.bind_some]
  rw [show (30 : Int) = ((30 : Nat) : Int) from rfl, tmod_nat _ 30 (mixv_pos name 5).1 (by omega)]
  have := Nat.mod_lt (mixv name 5).toNat (show 30 > 0 by omega)
  rw [wrap64 (by omega) (by omega)]
  simp
theorem i_offset {fu : Nat} (hf : 2000000 ≤ fu) (name : Int) : F_impl_offset fu name = some (off name : Int) := (show F_impl_offset fu name = F_spec_l3Offset fu name from rfl).trans (s_Offset hf name)
theorem i_skip {fu : Nat} (hf : 2000000 ≤ fu) (name : Int) : F_impl_skip fu name = some (skp name : Int) := (show F_impl_skip fu name = F_spec_l3Skip fu name from rfl).trans (s_Skip hf name)
theorem place_val (name : Int) (k : Nat) (hk : k < 31) : Int.tmod (IntKind.wrap .i64 ((off name : Int) + (IntKind.wrap .i64 ((k : Int) * (skp name : Int))))) 31 = (pl name k : Int) := by
  have h1 := off_lt name
  have h2 := skp_lt name
  have h3 : k * skp name ≤ 30 * 30 := Nat.mul_le_mul (by omega) h2.2
  have e1 : (k : Int) * (skp name : Int) = ((k * skp name : Nat) : Int) := by simp
  rw [e1, Vm.wrap64 (x := ((k * skp name : Nat) : Int)) (by omega) (by omega), wrap64 (by omega) (by omega)]
  rw [show (31 : Int) = ((31 : Nat) : Int) from rfl, tmod_nat _ 31 (by omega) (by omega)]
  unfold pl
  congr 2
theorem s_Place {fu : Nat} (hf : 2000000 ≤ fu) (name : Int) (k : Nat) (hk : k < 31) : F_spec_l3Place fu name (k : Int) = some (pl name k : Int) := by
  unfold F_spec_l3Place
  simp only [s_Offset hf, s_Skip hf, Option.bind_some, place_val name k hk]

/-- A name's places are all places. -/
theorem pl_all (name : Int) (p : Nat) (hp : p < 31) : ∃ k, k < 31 ∧ pl name k = p := by
  unfold pl
  have h1 := off_lt name
  have h2 := skp_lt name
  generalize off name = o at h1
  generalize skp name = s at h2
  have inv : ∃ t, t < 31 ∧ (s * t) % 31 = 1 := by
    have key : ∀ s : Fin 31, s.val ≠ 0 → ∃ t : Fin 31, (s.val * t.val) % 31 = 1 := by decide
    obtain ⟨t, ht⟩ := key ⟨s, by omega⟩ (by show s ≠ 0; omega)
    exact ⟨t.val, t.isLt, ht⟩
  obtain ⟨t, ht, hst⟩ := inv
  refine ⟨((p + 31 - o) * t) % 31, Nat.mod_lt _ (by omega), ?_⟩
  have e1 : ((p + 31 - o) * t % 31 * s) % 31 = (p + 31 - o) % 31 := by
    rw [Nat.mod_mul_mod, Nat.mul_assoc, Nat.mul_comm t s, Nat.mul_mod, hst, Nat.mul_one, Nat.mod_mod]
  rw [Nat.add_mod, e1]
  have : o % 31 = o := Nat.mod_eq_of_lt h1
  omega

/-! ### Tables -/

def zeros (T : Nat → Int) (n : Nat) : Nat := (List.range n).countP (fun p => T p == 0)
def setT (T : Nat → Int) (p : Nat) (v : Int) : Nat → Int := fun j => if j = p then v else T j
theorem zeros_succ (T : Nat → Int) (n : Nat) : zeros T (n + 1) = zeros T n + (if T n = 0 then 1 else 0) := by
  unfold zeros
  rw [List.range_succ, List.countP_append]
  by_cases h : T n = 0 <;> simp [h]
theorem zeros_set_ge (T : Nat → Int) (p : Nat) (v : Int) : ∀ n, n ≤ p → zeros (setT T p v) n = zeros T n
  | 0, _ => rfl
  | n + 1, h => by
    rw [zeros_succ, zeros_succ, zeros_set_ge T p v n (by omega)]
    have : setT T p v n = T n := by unfold setT; rw [if_neg (by omega)]
    rw [this]
theorem zeros_set {T : Nat → Int} {p : Nat} {v : Int} (hv : v ≠ 0) (hp : T p = 0) : ∀ n, p < n → zeros (setT T p v) n + 1 = zeros T n
  | 0, h => absurd h (Nat.not_lt_zero _)
  | n + 1, h => by
    rw [zeros_succ, zeros_succ]
    by_cases hn : n = p
    · subst hn
      rw [zeros_set_ge T n v n (Nat.le_refl _)]
      have : setT T n v n = v := by unfold setT; simp
      rw [this]
      simp [hv, hp]
    · have := zeros_set hv hp n (by omega)
      have e : setT T p v n = T n := by unfold setT; rw [if_neg hn]
      rw [e]
      omega
theorem zeros_pos {T : Nat → Int} : ∀ {n : Nat}, zeros T n ≠ 0 → ∃ p, p < n ∧ T p = 0
  | 0, h => absurd rfl h
  | n + 1, h => by
    rw [zeros_succ] at h
    by_cases hn : T n = 0
    · exact ⟨n, by omega, hn⟩
    · rw [if_neg hn] at h
      obtain ⟨p, hp, h0⟩ := zeros_pos (n := n) (by omega)
      exact ⟨p, by omega, h0⟩
theorem zeros_none {T : Nat → Int} : ∀ {n : Nat}, zeros T n = 0 → ∀ p, p < n → T p ≠ 0
  | 0, _, p, hp => absurd hp (Nat.not_lt_zero _)
  | n + 1, h, p, hp => by
    rw [zeros_succ] at h
    by_cases hn : T n = 0
    · rw [if_pos hn] at h; omega
    · by_cases hpn : p = n
      · subst hpn; exact hn
      · exact zeros_none (n := n) (by omega) p (by omega)

/-- The first place of a name's order that is nobody's. -/
def freeAt (T : Nat → Int) (name : Int) (k : Nat) : Option Nat := if T (pl name k) = 0 then some (pl name k) else none
def free (T : Nat → Int) (name : Int) : Option Nat := scan (freeAt T name) 31 0
theorem free_none {T : Nat → Int} {name : Int} (h : zeros T 31 = 0) : free T name = none := scan_none.2 (fun j _ hj => by
  unfold freeAt
  rw [if_neg (zeros_none h _ (pl_lt name j))])
theorem free_some {T : Nat → Int} {name : Int} (h : zeros T 31 ≠ 0) : ∃ p, free T name = some p := by
  cases hq : free T name with
  | some p => exact ⟨p, rfl⟩
  | none =>
    exfalso
    obtain ⟨p, hp, h0⟩ := zeros_pos h
    obtain ⟨k, hk, rfl⟩ := pl_all name p hp
    have := scan_none.1 hq k (by omega) (by omega)
    unfold freeAt at this
    rw [if_pos h0] at this
    cases this
theorem free_is {T : Nat → Int} {name : Int} {p : Nat} (h : free T name = some p) : p < 31 ∧ T p = 0 := by
  obtain ⟨j, h1, h2, h3⟩ := scan_some h
  unfold freeAt at h3
  split at h3
  · cases h3; exact ⟨pl_lt name j, by assumption⟩
  · cases h3

theorem s_Free {fu : Nat} (hf : 2000000 ≤ fu) (T : Nat → Int) (name : Int) : F_spec_l4Free fu ⟨none, 31, T⟩ name = some ((free T name).elim (-1) (fun p => (p : Int))) := by
  unfold F_spec_l4Free
  refine scanL 31 (freeAt T name) (fun p => some (p : Int)) (some (-1)) (by omega) (fun k go hk => ?_) (fun go => ?_) ?_
  · unfold F_spec_l4Free_B0 freeAt
    have h1 : (k : Int) < 31 := by omega
    have h2 := pl_lt name k
    simp only [h1, decide_true, cond_true, s_Place hf name k hk, Option.bind_some, Int.toNat_natCast, Int.natCast_nonneg, Bool.true_and, h2, wsucc (show k < 4611686018427387904 by omega)]
    by_cases h0 : T (pl name k) = 0
    · simp [h0]
    · have : (T (pl name k) == 0) = false := by simpa using h0
      simp only [this, cond_false, if_neg h0]
      rfl
  · unfold F_spec_l4Free_B0
    simp
  · unfold free
    cases scan (freeAt T name) 31 0 <;> rfl

/-! ### Rounds -/

def wS (name : Int) (_ : Nat) (T : Nat → Int) : Sum (Nat → Int) (Nat → Int) := match free T name with | none => .inl T | some p => .inr (setT T p name)
def wI (name : Int) (_ : Nat) (T : Nat → Int) : Sum (Nat → Int) (Nat → Int) := match free T name with | none => .inl T | some p => if zeros (setT T p name) 31 = 0 then .inl (setT T p name) else .inr (setT T p name)
def iS (list : Sl S_impl_Share) (i : Nat) (T : Nat → Int) : Sum (Nat → Int) (Nat → Int) := run (wS (list.f i).Name) (list.f i).Weight.toNat 0 T
def iI (list : Sl S_impl_Share) (i : Nat) (T : Nat → Int) : Sum (Nat → Int) (Nat → Int) := run (wI (list.f i).Name) (list.f i).Weight.toNat 0 T
def rS (list : Sl S_impl_Share) (_ : Nat) (T : Nat → Int) : Sum (Nat → Int) (Nat → Int) := run (iS list) list.n 0 T
def rI (list : Sl S_impl_Share) (_ : Nat) (T : Nat → Int) : Sum (Nat → Int) (Nat → Int) := run (iI list) list.n 0 T
def val {α : Type} (x : Sum α α) : α := x.elim id id

/-- The reference goes on a while where the program has ended. -/
def Sim (x y : Sum (Nat → Int) (Nat → Int)) : Prop := (∃ X, x = .inr X ∧ y = .inr X ∧ zeros X 31 ≠ 0) ∨ (∃ X, x = .inl X ∧ zeros X 31 = 0 ∧ (y = .inl X ∨ y = .inr X))
def Stay (g : Nat → (Nat → Int) → Sum (Nat → Int) (Nat → Int)) : Prop := ∀ i X, zeros X 31 = 0 → g i X = .inl X ∨ g i X = .inr X
theorem stay_run {g : Nat → (Nat → Int) → Sum (Nat → Int) (Nat → Int)} (hg : Stay g) : ∀ (n i : Nat) (X : Nat → Int), zeros X 31 = 0 → run g n i X = .inl X ∨ run g n i X = .inr X
  | 0, i, X, h => .inr rfl
  | n + 1, i, X, h => by
    simp only [run]
    rcases hg i X h with e | e
    · rw [e]; exact .inl rfl
    · rw [e]; exact stay_run hg n (i + 1) X h
theorem sim_run {f g : Nat → (Nat → Int) → Sum (Nat → Int) (Nat → Int)} (hs : ∀ i T, zeros T 31 ≠ 0 → Sim (f i T) (g i T)) (hg : Stay g) : ∀ (n i : Nat) (T : Nat → Int), zeros T 31 ≠ 0 → Sim (run f n i T) (run g n i T)
  | 0, i, T, h => .inl ⟨T, rfl, rfl, h⟩
  | n + 1, i, T, h => by
    simp only [run]
    rcases hs i T h with ⟨X, e1, e2, h1⟩ | ⟨X, e1, h1, e2⟩
    · rw [e1, e2]
      exact sim_run hs hg n (i + 1) X h1
    · rw [e1]
      rcases e2 with e2 | e2
      · rw [e2]; exact .inr ⟨X, rfl, h1, .inl rfl⟩
      · rw [e2]; exact .inr ⟨X, rfl, h1, stay_run hg n (i + 1) X h1⟩
theorem sim_w (name : Int) (i : Nat) (T : Nat → Int) (h : zeros T 31 ≠ 0) : Sim (wI name i T) (wS name i T) := by
  obtain ⟨p, hp⟩ := free_some (name := name) h
  unfold wI wS
  simp only [hp]
  by_cases h0 : zeros (setT T p name) 31 = 0
  · rw [if_pos h0]; exact .inr ⟨_, rfl, h0, .inr rfl⟩
  · rw [if_neg h0]; exact .inl ⟨_, rfl, rfl, h0⟩
theorem stay_w (name : Int) : Stay (wS name) := fun i X h => by
  unfold wS
  rw [free_none h]
  exact .inl rfl
theorem stay_i (list : Sl S_impl_Share) : Stay (iS list) := fun i X h => stay_run (stay_w _) _ _ X h
theorem stay_r (list : Sl S_impl_Share) : Stay (rS list) := fun i X h => stay_run (stay_i list) _ _ X h
theorem sim_i (list : Sl S_impl_Share) (i : Nat) (T : Nat → Int) (h : zeros T 31 ≠ 0) : Sim (iI list i T) (iS list i T) := sim_run (sim_w _) (stay_w _) _ _ T h
theorem sim_r (list : Sl S_impl_Share) (i : Nat) (T : Nat → Int) (h : zeros T 31 ≠ 0) : Sim (rI list i T) (rS list i T) := sim_run (sim_i list) (stay_i list) _ _ T h
theorem sim_val {x y : Sum (Nat → Int) (Nat → Int)} (h : Sim x y) : val x = val y := by
  rcases h with ⟨X, e1, e2, h1⟩ | ⟨X, e1, h1, e2⟩
  · rw [e1, e2]
  · rw [e1]
    rcases e2 with e2 | e2 <;> rw [e2] <;> rfl

/-! ### The program ends -/

structure SharesOk (list : Sl S_impl_Share) : Prop where
  name : ∀ i, i < list.n → (list.f i).Name ≠ 0
  weight : ∀ i, i < list.n → 0 ≤ (list.f i).Weight ∧ (list.f i).Weight ≤ 9
  len : list.n ≤ 1048576

theorem wI_run {name : Int} (hn : name ≠ 0) : ∀ (n i : Nat) (T X : Nat → Int), zeros T 31 ≠ 0 → run (wI name) n i T = .inr X → zeros X 31 ≠ 0 ∧ zeros X 31 + n = zeros T 31
  | 0, i, T, X, h, e => by simp only [run, Sum.inr.injEq] at e; subst e; exact ⟨h, rfl⟩
  | n + 1, i, T, X, h, e => by
    simp only [run] at e
    obtain ⟨p, hp⟩ := free_some (name := name) h
    obtain ⟨p1, p2⟩ := free_is hp
    have hz := zeros_set hn p2 31 p1
    unfold wI at e
    simp only [hp] at e
    by_cases h0 : zeros (setT T p name) 31 = 0
    · rw [if_pos h0] at e; cases e
    · rw [if_neg h0] at e
      obtain ⟨a, b⟩ := wI_run hn n (i + 1) (setT T p name) X h0 e
      exact ⟨a, by omega⟩
theorem iI_run {list : Sl S_impl_Share} (hl : SharesOk list) : ∀ (n i : Nat) (T X : Nat → Int), i + n = list.n → zeros T 31 ≠ 0 → run (iI list) n i T = .inr X → zeros X 31 ≠ 0 ∧ zeros X 31 ≤ zeros T 31 ∧ ((∃ j, i ≤ j ∧ j < list.n ∧ 0 < (list.f j).Weight) → zeros X 31 < zeros T 31)
  | 0, i, T, X, hi, h, e => by
    simp only [run, Sum.inr.injEq] at e; subst e
    exact ⟨h, Nat.le_refl _, fun ⟨j, h1, h2, _⟩ => by omega⟩
  | n + 1, i, T, X, hi, h, e => by
    simp only [run] at e
    cases hq : iI list i T with
    | inl Y => rw [hq] at e; cases e
    | inr Y =>
      rw [hq] at e
      obtain ⟨a, b⟩ := wI_run (hl.name i (by omega)) _ _ T Y h hq
      obtain ⟨c, d, f⟩ := iI_run hl n (i + 1) Y X (by omega) a e
      refine ⟨c, by omega, fun ⟨j, h1, h2, h3⟩ => ?_⟩
      by_cases hji : j = i
      · subst hji
        have : 0 < (list.f j).Weight.toNat := by omega
        omega
      · have := f ⟨j, by omega, h2, h3⟩
        omega
theorem rI_ends {list : Sl S_impl_Share} (hl : SharesOk list) (hw : ∃ j, j < list.n ∧ 0 < (list.f j).Weight) : ∀ (n i : Nat) (T : Nat → Int), zeros T 31 ≠ 0 → zeros T 31 ≤ n → ∃ X, run (rI list) n i T = .inl X
  | 0, i, T, h, hn => by omega
  | n + 1, i, T, h, hn => by
    simp only [run]
    cases hq : rI list i T with
    | inl Y => exact ⟨Y, rfl⟩
    | inr Y =>
      obtain ⟨j, h1, h2⟩ := hw
      obtain ⟨a, b, c⟩ := iI_run hl list.n 0 T Y (by omega) h hq
      have := c ⟨j, Nat.zero_le _, h1, h2⟩
      exact rI_ends hl ⟨j, h1, h2⟩ n (i + 1) Y a (by omega)

end Go.Proofs.YtcmfekgdlaffkaaGreatDoor.Px
