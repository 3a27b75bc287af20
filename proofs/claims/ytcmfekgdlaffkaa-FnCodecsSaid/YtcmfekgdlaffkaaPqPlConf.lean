/- Plain laws of configs. Conditions: none. -/
import Derived.Test.YtcmfekgdlaffkaaPqPlHealth
namespace Go.Proofs.Ytcmfekgdlaffkaa.Pq
open Go Go.RowKit Go.Proofs Vm
set_option linter.unusedVariables false
set_option linter.unusedSimpArgs false
set_option maxRecDepth 100000
theorem n_ne (a b : Nat) : (((a : Nat) : Int) != ((b : Nat) : Int)) = !(a == b) := by
  by_cases h : a = b
  · subst h; simp
  · have : (a : Int) ≠ (b : Int) := by omega
    rw [beq_eq_false_iff_ne.2 h, bne_iff_ne.2 this]; rfl
theorem contains_all (n : Nat) (ok : Nat → Bool) : (((scan (fun j => bif ok j then none else some j) n 0).elim (some (-1 : Int)) (fun j => some ((j : Nat) : Int))).bind fun y => some (decide (y ≥ 0))) = some (!allb n ok) := by
  cases hs : scan (fun j => bif ok j then none else some j) n 0 with
  | none =>
    have : allb n ok = true := allb_iff.2 (fun i hi => by
      have := scan_none.1 hs i (by omega) (by omega)
      cases hr : ok i with
      | true => rfl
      | false => simp [hr] at this)
    rw [this]; rfl
  | some j =>
    have : allb n ok = false := by
      rw [Bool.eq_false_iff]
      intro ha
      have : scan (fun j => bif ok j then none else some j) n 0 = none := scan_none.2 (fun i _ hi => by rw [allb_iff.1 ha i (by omega)]; rfl)
      rw [this] at hs; cases hs
    rw [this]
    simp
def cmpI (x y : Int) : Int := bif decide (x < y) then -1 else bif decide (x > y) then 1 else 0
theorem i_Compare (fu : Nat) (x y : Int) : F_cmp_Compare_int64 fu x y = some (cmpI x y) := by
  unfold F_cmp_Compare_int64 F_cmp_isNaN_int64 cmpI
  simp only [bne_self_eq_false, Option.bind_some, cond_false]
  cases decide (x < y) <;> cases decide (x > y) <;> rfl
theorem cmp3 (x y : Int) : (cmpI x y = -1 ∧ (x != y) = true ∧ decide (x < y) = true) ∨ (cmpI x y = 0 ∧ (x != y) = false ∧ decide (x < y) = false) ∨ (cmpI x y = 1 ∧ (x != y) = true ∧ decide (x < y) = false) := by
  unfold cmpI
  by_cases h1 : x < y
  · have h2 : x ≠ y := by omega
    left; simp [h1, h2]
  · by_cases h3 : x > y
    · have h2 : x ≠ y := by omega
      right; right; simp [h1, h2, h3]
    · have h2 : x = y := by omega
      right; left; subst h2; simp
theorem i_Or {fu : Nat} (hf : 2000000 ≤ fu) (a b c : Int) : F_cmp_Or_int fu (⟨(some false), 3, (fun i => [a, b, c].getD i (dflt .i64))⟩ : (Sl Int)) = some (bif a != 0 then a else bif b != 0 then b else c) := by
  unfold F_cmp_Or_int
  refine scanL 3 (fun i => bif ([a, b, c].getD i 0 != 0) then some ([a, b, c].getD i 0) else none) (fun z => some z) (some 0) (by omega) (fun i go hi => ?_) (fun go => ?_) ?_
  · unfold F_cmp_Or_int_B0
    have e : ∀ i, ([a, b, c].getD i (dflt .i64) : Int) = [a, b, c].getD i 0 := fun _ => rfl
    simp only [Int.toNat_natCast, Int.natCast_nonneg, Int.ofNat_lt, hi, decide_true, Bool.and_self, cond_true, Option.bind_some, wsucc (show i < 4611686018427387904 by omega), e]
    cases ([a, b, c].getD i 0 != 0) <;> rfl
  · unfold F_cmp_Or_int_B0; rfl
  · simp only [scan_succ, scan_zero, List.getD_cons_zero, List.getD_cons_succ]
    cases ha : (a != 0) <;> cases hb : (b != 0) <;> cases hc : (c != 0) <;> simp only [cond_true, cond_false, Option.elim_some, Option.elim_none] <;> (try rfl)
    all_goals (have : c = 0 := by simpa using hc
               subst this; rfl)
def cmpV (a b : S_impl_Vip) : Int := bif cmpI a.Address b.Address != 0 then cmpI a.Address b.Address else bif cmpI a.Port b.Port != 0 then cmpI a.Port b.Port else cmpI a.Proto b.Proto
theorem i_compareVip {fu : Nat} (hf : 2000000 ≤ fu) (a b : S_impl_Vip) : F_impl_compareVip fu a b = some (cmpV a b) := by
  unfold F_impl_compareVip cmpV
  simp only [i_Compare, i_Or hf, Option.bind_some]
def behind (a b : S_impl_Vip) : Bool := bif a.Address != b.Address then decide (a.Address < b.Address) else bif a.Port != b.Port then decide (a.Port < b.Port) else decide (a.Proto < b.Proto)
theorem s_Behind (fu : Nat) (a b : S_impl_Vip) : F_spec_l5Behind fu a b = some (behind a b) := by
  unfold F_spec_l5Behind behind
  cases (a.Address != b.Address) <;> cases (a.Port != b.Port) <;> rfl
theorem cmp_behind (a b : S_impl_Vip) : decide (cmpV a b ≥ 0) = !behind a b := by
  unfold cmpV behind
  rcases cmp3 a.Address b.Address with ⟨x1, x2, x3⟩ | ⟨x1, x2, x3⟩ | ⟨x1, x2, x3⟩ <;> rcases cmp3 a.Port b.Port with ⟨y1, y2, y3⟩ | ⟨y1, y2, y3⟩ | ⟨y1, y2, y3⟩ <;> rcases cmp3 a.Proto b.Proto with ⟨z1, z2, z3⟩ | ⟨z1, z2, z3⟩ | ⟨z1, z2, z3⟩ <;>
    simp only [x1, x2, x3, y1, y2, y3, z1, z2, z3] <;> rfl
theorem cmp_same (a b : S_impl_Vip) : (cmpV a b == 0) = ((a.Address == b.Address) && ((a.Port == b.Port) && (a.Proto == b.Proto))) := by
  have e : ∀ x y : Int, (x == y) = !(x != y) := fun x y => by rw [bne, Bool.not_not]
  rw [e a.Address, e a.Port, e a.Proto]
  unfold cmpV
  rcases cmp3 a.Address b.Address with ⟨x1, x2, x3⟩ | ⟨x1, x2, x3⟩ | ⟨x1, x2, x3⟩ <;> rcases cmp3 a.Port b.Port with ⟨y1, y2, y3⟩ | ⟨y1, y2, y3⟩ | ⟨y1, y2, y3⟩ <;> rcases cmp3 a.Proto b.Proto with ⟨z1, z2, z3⟩ | ⟨z1, z2, z3⟩ | ⟨z1, z2, z3⟩ <;>
    simp only [x1, x2, x3, y1, y2, y3, z1, z2, z3] <;> rfl
structure ConfLen (x : S_impl_Config) : Prop where
  backends : x.Backends.n ≤ 1048576
  vips : x.Vips.n ≤ 1048576
  names : ∀ i, i < x.Vips.n → (x.Vips.f i).Names.n ≤ 1048576
def backOk (b : S_impl_Backend) : Bool := rng b.Name 1 999 && (rng b.Address 0 4294967295 && (rng b.Weight 0 9 && rng b.Stage 1 3))
theorem s_Backend (fu : Nat) (b : S_impl_Backend) : F_spec_l5Backend fu b = some (backOk b) := by
  unfold F_spec_l5Backend backOk
  simp only [p_l1In, p_l3Name, p_l2Address, Option.bind_some]
  cases rng b.Name 1 999 <;> cases rng b.Address 0 4294967295 <;> cases rng b.Weight 0 9 <;> cases rng b.Stage 1 3 <;> rfl
theorem i_isBackend (fu : Nat) (b : S_impl_Backend) : F_impl_isBackend fu b = some (backOk b) := by
  unfold F_impl_isBackend backOk
  simp only [p_in, p_isName, p_isAddress, p_l3Name, p_l2Address, Option.bind_some]
  cases rng b.Name 1 999 <;> cases rng b.Address 0 4294967295 <;> cases rng b.Weight 0 9 <;> cases rng b.Stage 1 3 <;> rfl
def protoOk (p : Int) : Bool := bif p == 6 then true else p == 17
theorem s_Proto (fu : Nat) (p : Int) : F_spec_l5Proto fu p = some (protoOk p) := by
  unfold F_spec_l5Proto protoOk
  cases (p == 6) <;> rfl
theorem i_isProto (fu : Nat) (p : Int) : F_impl_isProto fu p = some (protoOk p) := by
  unfold F_impl_isProto protoOk
  cases (p == 6) <;> rfl
def hasB (x : Sl S_impl_Backend) (n : Int) : Option Nat := scan (fun i => bif (x.f i).Name == n then some i else none) x.n 0
def atB (x : Sl S_impl_Backend) (n : Int) : Int := (hasB x n).elim (-1) (fun j => (j : Int))
theorem atB_neg (x : Sl S_impl_Backend) (n : Int) : decide (atB x n < 0) = !(hasB x n).isSome := by
  unfold atB
  cases hasB x n with
  | none => rfl
  | some j =>
    have : ¬ ((j : Nat) : Int) < 0 := by omega
    simp only [Option.elim_some, Option.isSome_some, Bool.not_true, this, decide_false]
theorem s_At {fu : Nat} (hf : 2000000 ≤ fu) (c : S_impl_Config) (hb : c.Backends.n ≤ 1048576) (n : Int) : F_spec_l5At fu c n = some (atB c.Backends n) := by
  unfold F_spec_l5At
  refine scanL c.Backends.n (fun i => bif (c.Backends.f i).Name == n then some i else none) (fun j => some ((j : Nat) : Int)) (some (-1)) (by omega) (fun i go hi => ?_) (fun go => ?_) ?_
  · unfold F_spec_l5At_B0
    simp only [Int.toNat_natCast, Int.natCast_nonneg, Int.ofNat_lt, hi, decide_true, Bool.and_self, cond_true, Option.bind_some, wsucc (show i < 4611686018427387904 by omega)]
    cases ((c.Backends.f i).Name == n) <;> rfl
  · unfold F_spec_l5At_B0; simp
  · unfold atB hasB
    cases scan (fun i => bif (c.Backends.f i).Name == n then some i else none) c.Backends.n 0 <;> rfl
theorem i_backend {fu : Nat} (hf : 2000000 ≤ fu) (c : S_impl_Config) (hb : c.Backends.n ≤ 1048576) (n : Int) : F_impl_Config_backend fu c n = some (atB c.Backends n) := by
  unfold F_impl_Config_backend
  have e : F_slices_IndexFunc_impl_Backend_impl_Backend_w_impl_Config_backend_c1 fu c.Backends n = some (atB c.Backends n) := by
    unfold F_slices_IndexFunc_impl_Backend_impl_Backend_w_impl_Config_backend_c1
    refine scanL c.Backends.n (fun i => bif (c.Backends.f i).Name == n then some i else none) (fun j => some ((j : Nat) : Int)) (some (-1)) (by omega) (fun i go hi => ?_) (fun go => ?_) ?_
    · unfold F_slices_IndexFunc_impl_Backend_impl_Backend_w_impl_Config_backend_c1_B0 F_impl_Config_backend_c1
      simp only [Int.toNat_natCast, Int.natCast_nonneg, Int.ofNat_lt, hi, decide_true, Bool.and_self, cond_true, Option.bind_some, wsucc (show i < 4611686018427387904 by omega)]
      cases ((c.Backends.f i).Name == n) <;> rfl
    · unfold F_slices_IndexFunc_impl_Backend_impl_Backend_w_impl_Config_backend_c1_B0; simp
    · unfold atB hasB
      cases scan (fun i => bif (c.Backends.f i).Name == n then some i else none) c.Backends.n 0 <;> rfl
  rw [e]; rfl
def rise (v : Sl Int) : Bool := allb v.n (fun i => decide (i = 0) || !decide (v.f i ≤ v.f (i - 1)))
def allin (c : S_impl_Config) (v : Sl Int) : Bool := allb v.n (fun j => (hasB c.Backends (v.f j)).isSome)
def vipOk (v : S_impl_Vip) : Bool := rng v.Address 0 4294967295 && (rng v.Port 0 65535 && protoOk v.Proto)
def vipAt (c : S_impl_Config) (i : Nat) : Option Int :=
  bif !vipOk (c.Vips.f i) then some 3 else bif decide (0 < i) && !behind (c.Vips.f (i - 1)) (c.Vips.f i) then some 1 else bif !allin c (c.Vips.f i).Names then some 4 else bif !rise (c.Vips.f i).Names then some 1 else none
theorem s_Vip {fu : Nat} (hf : 2000000 ≤ fu) (c : S_impl_Config) (hc : ConfLen c) (i : Nat) (hi : i < c.Vips.n) : F_spec_l5Vip fu c (i : Int) = some ((vipAt c i).getD 0) := by
  have hv := hc.vips
  have hn := hc.names i hi
  have hb := hc.backends
  unfold F_spec_l5Vip vipAt vipOk
  simp only [Int.toNat_natCast, Int.natCast_nonneg, Int.ofNat_lt, hi, decide_true, Bool.and_self, cond_true, Option.bind_some, p_l2Address, p_l2Port, s_Proto]
  cases rng (c.Vips.f i).Address 0 4294967295 <;> cases rng (c.Vips.f i).Port 0 65535 <;> cases protoOk (c.Vips.f i).Proto <;> (try rfl)
  simp only [Bool.not_true, Bool.and_self, cond_false, Option.bind_some]
  have e : ((bif (decide ((i : Int) > 0)) then ((bif (decide (0 ≤ (IntKind.wrap .i64 ((i : Int) - 1))) && decide ((Int.toNat (IntKind.wrap .i64 ((i : Int) - 1))) < c.Vips.n)) then some () else none : Option Unit).bind fun _ => ((F_spec_l5Behind fu (c.Vips.f (Int.toNat (IntKind.wrap .i64 ((i : Int) - 1)))) (c.Vips.f i)).bind fun y203 => (some (!y203)))) else
    (some false)) : Option Bool) = some (decide (0 < i) && !behind (c.Vips.f (i - 1)) (c.Vips.f i)) := by
    by_cases h0 : 0 < i
    · have h1 : (i : Int) > 0 := by omega
      have h2 : i - 1 < c.Vips.n := by omega
      simp only [h0, h1, decide_true, cond_true, wpred h0 (show i < 4611686018427387904 by omega), Int.toNat_natCast, Int.natCast_nonneg, h2, Bool.and_self, Option.bind_some, s_Behind, Bool.true_and]
    · have h1 : ¬ (i : Int) > 0 := by omega
      simp only [h0, h1, decide_false, cond_false, Bool.false_and]
  rw [e]
  simp only [Option.bind_some]
  cases (decide (0 < i) && !behind (c.Vips.f (i - 1)) (c.Vips.f i)) <;> simp only [cond_true, cond_false] <;> (try rfl)
  refine allL (c.Vips.f i).Names.n (fun j => (hasB c.Backends ((c.Vips.f i).Names.f j)).isSome) (some 4) (bif rise (c.Vips.f i).Names then some 0 else some 1) (by omega) (fun j go hj => ?_) (fun go => ?_) ?_
  · unfold F_spec_l5Vip_B0
    simp only [Int.toNat_natCast, Int.natCast_nonneg, Int.ofNat_lt, hj, decide_true, Bool.and_self, cond_true, Option.bind_some, wsucc (show j < 4611686018427387904 by omega), s_At hf c hb, atB_neg]
    cases (hasB c.Backends ((c.Vips.f i).Names.f j)).isSome <;> rfl
  · unfold F_spec_l5Vip_B0
    simp only [Int.ofNat_lt, Nat.lt_irrefl, decide_false, cond_false]
    refine allL1 (c.Vips.f i).Names.n (fun j => !decide ((c.Vips.f i).Names.f j ≤ (c.Vips.f i).Names.f (j - 1))) (some 1) (some 0) (by omega) (fun j go h1 hj => ?_) (fun j go hj => ?_) ?_
    · unfold F_spec_l5Vip_B2
      have h2 : j - 1 < (c.Vips.f i).Names.n := by omega
      simp only [Int.toNat_natCast, Int.natCast_nonneg, Int.ofNat_lt, hj, decide_true, Bool.and_self, cond_true, Option.bind_some, wpred (show 0 < j by omega) (show j < 4611686018427387904 by omega), h2, wsucc (show j < 4611686018427387904 by omega)]
      cases decide ((c.Vips.f i).Names.f j ≤ (c.Vips.f i).Names.f (j - 1)) <;> rfl
    · unfold F_spec_l5Vip_B2
      simp only [Int.ofNat_lt, show ¬ j < (c.Vips.f i).Names.n by omega, decide_false, cond_false]
    · unfold rise; rfl
  · unfold allin
    cases allb (c.Vips.f i).Names.n (fun j => (hasB c.Backends ((c.Vips.f i).Names.f j)).isSome) <;> cases rise (c.Vips.f i).Names <;> rfl
def bkAt (x : Sl S_impl_Backend) (i : Nat) : Option Int := bif !backOk (x.f i) then some 3 else bif decide (0 < i) && decide ((x.f i).Name ≤ (x.f (i - 1)).Name) then some 1 else none
def conff (c : S_impl_Config) : Int :=
  bif !rng c.Version 0 1000000 then 3 else bif decide (8 < c.Backends.n) || decide (4 < c.Vips.n) then 2 else (scan (bkAt c.Backends) c.Backends.n 0).elim ((scan (vipAt c) c.Vips.n 0).getD 0) id
theorem vipAt_ne {c : S_impl_Config} {i : Nat} {v : Int} (h : vipAt c i = some v) : (v != 0) = true := by
  unfold vipAt at h
  generalize (!vipOk (c.Vips.f i)) = x1 at h
  generalize (decide (0 < i) && !behind (c.Vips.f (i - 1)) (c.Vips.f i)) = x2 at h
  generalize (!allin c (c.Vips.f i).Names) = x3 at h
  generalize (!rise (c.Vips.f i).Names) = x4 at h
  cases x1 <;> cases x2 <;> cases x3 <;> cases x4 <;> simp only [cond_true, cond_false, Option.some.injEq, reduceCtorEq] at h <;> subst h <;> rfl
theorem s_ConfFault {fu : Nat} (hf : 2000000 ≤ fu) (c : S_impl_Config) (hc : ConfLen c) : F_spec_l5Fault fu c = some (conff c) := by
  have hv := hc.vips
  have hb := hc.backends
  unfold F_spec_l5Fault conff
  simp only [p_l5Version, Option.bind_some]
  cases rng c.Version 0 1000000 <;> simp only [Bool.not_true, Bool.not_false, cond_true, cond_false]
  have e : ((bif (decide (((c.Backends.n : Nat) : Int) > 8)) then (some true) else (some (decide (((c.Vips.n : Nat) : Int) > 4)))) : Option Bool) = some (decide (8 < c.Backends.n) || decide (4 < c.Vips.n)) := by
    rw [show decide (((c.Backends.n : Nat) : Int) > 8) = decide (8 < c.Backends.n) from decide_eq_decide.2 (by omega), show decide (((c.Vips.n : Nat) : Int) > 4) = decide (4 < c.Vips.n) from decide_eq_decide.2 (by omega)]
    cases decide (8 < c.Backends.n) <;> rfl
  rw [e]
  simp only [Option.bind_some]
  cases (decide (8 < c.Backends.n) || decide (4 < c.Vips.n)) <;> simp only [cond_true, cond_false]
  refine scanL c.Backends.n (bkAt c.Backends) (fun z => some z) (some ((scan (vipAt c) c.Vips.n 0).getD 0)) (by omega) (fun i go hi => ?_) (fun go => ?_) ?_
  · unfold F_spec_l5Fault_B0 bkAt
    simp only [Int.toNat_natCast, Int.natCast_nonneg, Int.ofNat_lt, hi, decide_true, Bool.and_self, cond_true, Option.bind_some, s_Backend, wsucc (show i < 4611686018427387904 by omega)]
    cases backOk (c.Backends.f i) <;> simp only [Bool.not_true, Bool.not_false, cond_true, cond_false, Option.elim_some]
    by_cases h0 : 0 < i
    · have h1 : (i : Int) > 0 := by omega
      have h2 : i - 1 < c.Backends.n := by omega
      simp only [h0, h1, decide_true, cond_true, wpred h0 (show i < 4611686018427387904 by omega), Int.toNat_natCast, Int.natCast_nonneg, h2, Bool.and_self, Option.bind_some, Bool.true_and]
      cases decide ((c.Backends.f i).Name ≤ (c.Backends.f (i - 1)).Name) <;> rfl
    · have h1 : ¬ (i : Int) > 0 := by omega
      simp only [h0, h1, decide_false, cond_false, Bool.false_and, Option.bind_some, Option.elim_none]
  · unfold F_spec_l5Fault_B0
    simp only [Int.ofNat_lt, Nat.lt_irrefl, decide_false, cond_false]
    refine scanL c.Vips.n (vipAt c) (fun z => some z) (some 0) (by omega) (fun i go hi => ?_) (fun go => ?_) ?_
    · unfold F_spec_l5Fault_B2
      simp only [Int.ofNat_lt, hi, decide_true, cond_true, s_Vip hf c hc i hi, Option.bind_some, wsucc (show i < 4611686018427387904 by omega)]
      cases h : vipAt c i with
      | none => rfl
      | some v => simp only [Option.getD_some, vipAt_ne h, cond_true, Option.elim_some]
    · unfold F_spec_l5Fault_B2; simp
    · cases scan (vipAt c) c.Vips.n 0 <;> rfl
  · cases scan (bkAt c.Backends) c.Backends.n 0 <;> rfl
theorem i_Contains {fu : Nat} (hf : 2000000 ≤ fu) (c : S_impl_Config) (hb : c.Backends.n ≤ 1048576) (v : Sl Int) (hv : v.n ≤ 1048576) : F_slices_ContainsFunc_int64_int64_w_impl_ConfigFault_c1 fu v c.Version c.Backends c.Vips = some (!allin c v) := by
  unfold F_slices_ContainsFunc_int64_int64_w_impl_ConfigFault_c1 F_slices_IndexFunc_int64_int64_w_impl_ConfigFault_c1
  rw [show ∀ (o : Option Int), o = (scan (fun j => bif (hasB c.Backends (v.f j)).isSome then none else some j) v.n 0).elim (some (-1 : Int)) (fun j => some ((j : Nat) : Int)) → (o.bind fun y254 => (some (decide (y254 ≥ 0)))) = some (!allin c v) from fun o h => by rw [h]; exact contains_all v.n (fun j => (hasB c.Backends (v.f j)).isSome)]
  refine scanL v.n (fun j => bif (hasB c.Backends (v.f j)).isSome then none else some j) (fun j => some ((j : Nat) : Int)) (some (-1)) (by omega) (fun j go hj => ?_) (fun go => ?_) rfl
  · unfold F_slices_IndexFunc_int64_int64_w_impl_ConfigFault_c1_B0 F_impl_ConfigFault_c1
    simp only [Int.toNat_natCast, Int.natCast_nonneg, Int.ofNat_lt, hj, decide_true, Bool.and_self, cond_true, Option.bind_some, wsucc (show j < 4611686018427387904 by omega), i_backend hf ⟨c.Version, c.Backends, c.Vips⟩ hb, atB_neg]
    cases (hasB c.Backends (v.f j)).isSome <;> rfl
  · unfold F_slices_IndexFunc_int64_int64_w_impl_ConfigFault_c1_B0; simp
theorem i_ConfigFault {fu : Nat} (hf : 2000000 ≤ fu) (c : S_impl_Config) (hc : ConfLen c) : F_impl_ConfigFault fu c = some (conff c) := by
  have hv := hc.vips
  have hb := hc.backends
  unfold F_impl_ConfigFault conff
  simp only [p_in, Option.bind_some]
  cases rng c.Version 0 1000000 <;> simp only [Bool.not_true, Bool.not_false, cond_true, cond_false]
  have e : ((bif (decide (((c.Backends.n : Nat) : Int) > 8)) then (some true) else (some (decide (((c.Vips.n : Nat) : Int) > 4)))) : Option Bool) = some (decide (8 < c.Backends.n) || decide (4 < c.Vips.n)) := by
    rw [show decide (((c.Backends.n : Nat) : Int) > 8) = decide (8 < c.Backends.n) from decide_eq_decide.2 (by omega), show decide (((c.Vips.n : Nat) : Int) > 4) = decide (4 < c.Vips.n) from decide_eq_decide.2 (by omega)]
    cases decide (8 < c.Backends.n) <;> rfl
  rw [e]
  simp only [Option.bind_some]
  cases (decide (8 < c.Backends.n) || decide (4 < c.Vips.n)) <;> simp only [cond_true, cond_false]
  refine scanL c.Backends.n (bkAt c.Backends) (fun z => some z) (some ((scan (vipAt c) c.Vips.n 0).getD 0)) (by omega) (fun i go hi => ?_) (fun go => ?_) ?_
  · unfold F_impl_ConfigFault_B1 bkAt
    simp only [Int.toNat_natCast, Int.natCast_nonneg, Int.ofNat_lt, hi, decide_true, Bool.and_self, cond_true, Option.bind_some, i_isBackend, wsucc (show i < 4611686018427387904 by omega)]
    cases backOk (c.Backends.f i) <;> simp only [Bool.not_true, Bool.not_false, cond_true, cond_false, Option.elim_some]
    by_cases h0 : 0 < i
    · have h1 : (i : Int) > 0 := by omega
      have h2 : i - 1 < c.Backends.n := by omega
      simp only [h0, h1, decide_true, cond_true, wpred h0 (show i < 4611686018427387904 by omega), Int.toNat_natCast, Int.natCast_nonneg, h2, Bool.and_self, Option.bind_some, Bool.true_and]
      cases decide ((c.Backends.f i).Name ≤ (c.Backends.f (i - 1)).Name) <;> rfl
    · have h1 : ¬ (i : Int) > 0 := by omega
      simp only [h0, h1, decide_false, cond_false, Bool.false_and, Option.bind_some, Option.elim_none]
  · unfold F_impl_ConfigFault_B1
    simp only [Int.lt_irrefl, decide_false, cond_false]
    refine scanL c.Vips.n (vipAt c) (fun z => some z) (some 0) (by omega) (fun i go hi => ?_) (fun go => ?_) ?_
    · have hn := hc.names i hi
      unfold F_impl_ConfigFault_B3 vipAt vipOk
      simp only [Int.toNat_natCast, Int.natCast_nonneg, Int.ofNat_lt, hi, decide_true, Bool.and_self, cond_true, Option.bind_some, p_isAddress, p_isPort, p_l2Address, p_l2Port, i_isProto, wsucc (show i < 4611686018427387904 by omega), i_Contains hf c hb (c.Vips.f i).Names hn]
      cases rng (c.Vips.f i).Address 0 4294967295 <;> cases rng (c.Vips.f i).Port 0 65535 <;> cases protoOk (c.Vips.f i).Proto <;> (try rfl)
      simp only [Bool.not_true, Bool.and_self, cond_false, Option.bind_some]
      have e : ((bif (decide ((i : Int) > 0)) then ((bif (decide (0 ≤ (IntKind.wrap .i64 ((i : Int) - 1))) && decide ((Int.toNat (IntKind.wrap .i64 ((i : Int) - 1))) < c.Vips.n)) then some () else none : Option Unit).bind fun _ => ((F_impl_compareVip fu (c.Vips.f (Int.toNat (IntKind.wrap .i64 ((i : Int) - 1)))) (c.Vips.f i)).bind fun y231 => (some (decide (y231 ≥ 0))))) else
        (some false)) : Option Bool) = some (decide (0 < i) && !behind (c.Vips.f (i - 1)) (c.Vips.f i)) := by
        by_cases h0 : 0 < i
        · have h1 : (i : Int) > 0 := by omega
          have h2 : i - 1 < c.Vips.n := by omega
          simp only [h0, h1, decide_true, cond_true, wpred h0 (show i < 4611686018427387904 by omega), Int.toNat_natCast, Int.natCast_nonneg, h2, Bool.and_self, Option.bind_some, i_compareVip hf, cmp_behind, Bool.true_and]
        · have h1 : ¬ (i : Int) > 0 := by omega
          simp only [h0, h1, decide_false, cond_false, Bool.false_and]
      rw [e]
      simp only [Option.bind_some]
      cases (decide (0 < i) && !behind (c.Vips.f (i - 1)) (c.Vips.f i)) <;> simp only [cond_true, cond_false] <;> (try rfl)
      cases allin c (c.Vips.f i).Names <;> simp only [Bool.not_true, Bool.not_false, cond_true, cond_false] <;> (try rfl)
      refine allL1 (c.Vips.f i).Names.n (fun j => !decide ((c.Vips.f i).Names.f j ≤ (c.Vips.f i).Names.f (j - 1))) (some 1) (go ((i + 1 : Nat) : Int)) (by omega) (fun j go' h1 hj => ?_) (fun j go' hj => ?_) ?_
      · unfold F_impl_ConfigFault_B5
        have h2 : j - 1 < (c.Vips.f i).Names.n := by omega
        simp only [Int.toNat_natCast, Int.natCast_nonneg, Int.ofNat_lt, hj, decide_true, Bool.and_self, cond_true, Option.bind_some, wpred (show 0 < j by omega) (show j < 4611686018427387904 by omega), h2, wsucc (show j < 4611686018427387904 by omega)]
        cases decide ((c.Vips.f i).Names.f j ≤ (c.Vips.f i).Names.f (j - 1)) <;> rfl
      · unfold F_impl_ConfigFault_B5
        simp only [Int.ofNat_lt, show ¬ j < (c.Vips.f i).Names.n by omega, decide_false, cond_false]
      · unfold rise
        cases allb (c.Vips.f i).Names.n (fun j => decide (j = 0) || !decide ((c.Vips.f i).Names.f j ≤ (c.Vips.f i).Names.f (j - 1))) <;> rfl
    · unfold F_impl_ConfigFault_B3; simp
    · cases scan (vipAt c) c.Vips.n 0 <;> rfl
  · cases scan (bkAt c.Backends) c.Backends.n 0 <;> rfl
def emptyC (c : S_impl_Config) : Bool := (c.Version == 0) && ((((c.Backends.n : Nat) : Int) == 0) && (((c.Vips.n : Nat) : Int) == 0))
end Go.Proofs.Ytcmfekgdlaffkaa.Pq
