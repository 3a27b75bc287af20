/- A configuration in bytes is read back, whole. Conditions: none. -/
import Derived.Test.YtcmfekgdlaffkaaPqPlRound
namespace Go.Proofs.Ytcmfekgdlaffkaa.Pq
open Go Go.RowKit Go.Proofs Vm
set_option linter.unusedVariables false
set_option linter.unusedSimpArgs false
set_option maxRecDepth 100000
theorem hasB_in {x : Sl S_impl_Backend} {n : Int} {b : Nat} (h : hasB x n = some b) : b < x.n ∧ (x.f b).Name = n := by
  obtain ⟨j, h1, h2, h3⟩ := scan_some h
  cases hq : (x.f j).Name == n with
  | false => rw [hq] at h3; cases h3
  | true =>
    rw [hq] at h3
    cases h3
    exact ⟨by omega, by simpa using hq⟩
structure Conf1 (c : S_impl_Config) : Prop where
  ver : 0 ≤ c.Version ∧ c.Version ≤ 1000000
  bn : c.Backends.n ≤ 8
  vn : c.Vips.n ≤ 4
  back : ∀ i, i < c.Backends.n → backOk (c.Backends.f i) = true
  up : ∀ i, i + 1 < c.Backends.n → (c.Backends.f i).Name < (c.Backends.f (i + 1)).Name
  vip : ∀ i, i < c.Vips.n → vipOk (c.Vips.f i) = true ∧ allin c (c.Vips.f i).Names = true ∧ rise (c.Vips.f i).Names = true
theorem conf1 {c : S_impl_Config} (h : conff c = 0) : Conf1 c := by
  unfold conff at h
  cases h1 : rng c.Version 0 1000000 with
  | false => rw [h1] at h; cases h
  | true =>
    rw [h1] at h
    simp only [Bool.not_true, cond_false] at h
    cases h2 : (decide (8 < c.Backends.n) || decide (4 < c.Vips.n)) with
    | true => rw [h2] at h; cases h
    | false =>
      rw [h2] at h
      simp only [cond_false] at h
      simp only [Bool.or_eq_false_iff, decide_eq_false_iff_not] at h2
      simp only [rng, Bool.and_eq_true, decide_eq_true_eq] at h1
      cases h3 : scan (bkAt c.Backends) c.Backends.n 0 with
      | some v =>
        rw [h3] at h
        obtain ⟨j, _, _, hj⟩ := scan_some h3
        unfold bkAt at hj
        cases ha : (!backOk (c.Backends.f j)) with
        | true => rw [ha] at hj; cases hj; cases h
        | false =>
          rw [ha] at hj
          simp only [cond_false] at hj
          cases hb : (decide (0 < j) && decide ((c.Backends.f j).Name ≤ (c.Backends.f (j - 1)).Name)) with
          | true => rw [hb] at hj; cases hj; cases h
          | false => rw [hb] at hj; cases hj
      | none =>
        rw [h3] at h
        simp only [Option.elim_none] at h
        cases h4 : scan (vipAt c) c.Vips.n 0 with
        | some v =>
          rw [h4] at h
          obtain ⟨j, _, _, hj⟩ := scan_some h4
          have := vipAt_ne hj
          simp only [Option.getD_some] at h
          rw [h] at this
          cases this
        | none =>
          have hbk : ∀ i, i < c.Backends.n → backOk (c.Backends.f i) = true ∧ (decide (0 < i) && decide ((c.Backends.f i).Name ≤ (c.Backends.f (i - 1)).Name)) = false := fun i hi => by
            have := scan_none.1 h3 i (Nat.zero_le _) (by omega)
            unfold bkAt at this
            cases ha : backOk (c.Backends.f i) with
            | false => rw [ha] at this; cases this
            | true =>
              refine ⟨rfl, ?_⟩
              rw [ha] at this
              simp only [Bool.not_true, cond_false] at this
              cases hb : (decide (0 < i) && decide ((c.Backends.f i).Name ≤ (c.Backends.f (i - 1)).Name)) with
              | true => rw [hb] at this; cases this
              | false => rfl
          refine ⟨h1, by omega, by omega, fun i hi => (hbk i hi).1, fun i hi => ?_, fun i hi => ?_⟩
          · have := (hbk (i + 1) hi).2
            simp only [Nat.add_sub_cancel, Bool.and_eq_false_iff, decide_eq_false_iff_not] at this
            omega
          · have hq := scan_none.1 h4 i (Nat.zero_le _) (by omega)
            unfold vipAt at hq
            generalize (decide (0 < i) && !behind (c.Vips.f (i - 1)) (c.Vips.f i)) = x2 at hq
            cases ha : vipOk (c.Vips.f i) with
            | false => rw [ha] at hq; cases hq
            | true =>
              rw [ha] at hq
              cases hb : allin c (c.Vips.f i).Names with
              | false => rw [hb] at hq; cases x2 <;> cases hq
              | true =>
                rw [hb] at hq
                cases hd : rise (c.Vips.f i).Names with
                | false => rw [hd] at hq; cases x2 <;> cases hq
                | true => exact ⟨rfl, rfl, rfl⟩
theorem Conf1.lt {c : S_impl_Config} (h : Conf1 c) : ∀ {i j : Nat}, i < j → j < c.Backends.n → (c.Backends.f i).Name < (c.Backends.f j).Name
  | i, 0, hij, _ => absurd hij (Nat.not_lt_zero _)
  | i, j + 1, hij, hj => by
    have h1 := h.up j hj
    by_cases e : i = j
    · rw [e]; exact h1
    · have := h.lt (i := i) (j := j) (by omega) (by omega)
      omega
theorem Conf1.fit {c : S_impl_Config} (h : Conf1 c) {v : Nat} (hv : v < c.Vips.n) : VipFit (c.Vips.f v) ∧ (c.Vips.f v).Names.n ≤ 8 := by
  obtain ⟨q1, q2, q3⟩ := h.vip v hv
  have at_ : ∀ t, t < (c.Vips.f v).Names.n → ∃ b, b < c.Backends.n ∧ (c.Backends.f b).Name = (c.Vips.f v).Names.f t := fun t ht => by
    unfold allin at q2
    have := allb_iff.1 q2 t ht
    cases hb : hasB c.Backends ((c.Vips.f v).Names.f t) with
    | some b => exact ⟨b, (hasB_in hb).1, (hasB_in hb).2⟩
    | none => rw [hb] at this; cases this
  have ri : ∀ t, t + 1 < (c.Vips.f v).Names.n → (c.Vips.f v).Names.f t < (c.Vips.f v).Names.f (t + 1) := fun t ht => by
    unfold rise at q3
    have := allb_iff.1 q3 (t + 1) ht
    simp only [Nat.add_sub_cancel, Bool.or_eq_true, decide_eq_true_eq, Bool.not_eq_true', decide_eq_false_iff_not] at this
    omega
  have pig : ∀ t b, t < (c.Vips.f v).Names.n → b < c.Backends.n → (c.Backends.f b).Name = (c.Vips.f v).Names.f t → t ≤ b := by
    intro t
    induction t with
    | zero => intro b _ _ _; exact Nat.zero_le _
    | succ t ih =>
      intro b ht hb e
      obtain ⟨b0, k1, k2⟩ := at_ t (by omega)
      have h0 := ih b0 (by omega) k1 k2
      have h1 := ri t ht
      by_cases hle : b ≤ b0
      · exfalso
        by_cases e2 : b = b0
        · subst e2; omega
        · have := h.lt (i := b) (j := b0) (by omega) k1
          omega
      · omega
  have hn : (c.Vips.f v).Names.n ≤ 8 := by
    by_cases hz : (c.Vips.f v).Names.n = 0
    · omega
    · obtain ⟨b, k1, k2⟩ := at_ ((c.Vips.f v).Names.n - 1) (by omega)
      have := pig _ b (by omega) k1 k2
      have := h.bn
      omega
  refine ⟨⟨q1, by omega, fun t ht => ?_⟩, hn⟩
  obtain ⟨b, k1, k2⟩ := at_ t ht
  have := h.back b k1
  unfold backOk at this
  simp only [Bool.and_eq_true, rng, decide_eq_true_eq] at this
  omega
structure CEq (a b : S_impl_Config) : Prop where
  ver : a.Version = b.Version
  bn : a.Backends.n = b.Backends.n
  backs : ∀ j, j < b.Backends.n → a.Backends.f j = b.Backends.f j
  vn : a.Vips.n = b.Vips.n
  vips : ∀ j, j < b.Vips.n → VipEq (a.Vips.f j) (b.Vips.f j)
theorem scan_cg {α : Type} {f g : Nat → Option α} : ∀ (m i : Nat), (∀ j, i ≤ j → j < i + m → f j = g j) → scan f m i = scan g m i
  | 0, i, _ => rfl
  | m + 1, i, h => by rw [scan_succ, scan_succ, h i (Nat.le_refl _) (by omega), scan_cg m (i + 1) (fun j h1 h2 => h j (by omega) (by omega))]
theorem hasB_cg {a b : S_impl_Config} (h : CEq a b) (n : Int) : hasB a.Backends n = hasB b.Backends n := by
  unfold hasB
  rw [h.bn]
  exact scan_cg _ _ (fun j _ hj => by rw [h.backs j (by omega)])
theorem conff_cg {a b : S_impl_Config} (h : CEq a b) : conff a = conff b := by
  unfold conff
  have e1 : scan (bkAt a.Backends) a.Backends.n 0 = scan (bkAt b.Backends) b.Backends.n 0 := by
    rw [h.bn]
    refine scan_cg _ _ (fun j _ hj => ?_)
    unfold bkAt
    rw [h.backs j (by omega), h.backs (j - 1) (by omega)]
  have e2 : scan (vipAt a) a.Vips.n 0 = scan (vipAt b) b.Vips.n 0 := by
    rw [h.vn]
    refine scan_cg _ _ (fun j _ hj => ?_)
    have k := h.vips j (by omega)
    have k1 := h.vips (j - 1) (by omega)
    unfold vipAt vipOk behind allin rise
    rw [k.addr, k.port, k.proto, k1.addr, k1.port, k1.proto, k.len]
    have ea : allb (b.Vips.f j).Names.n (fun t => (hasB a.Backends ((a.Vips.f j).Names.f t)).isSome) = allb (b.Vips.f j).Names.n (fun t => (hasB b.Backends ((b.Vips.f j).Names.f t)).isSome) :=
      allb_congr (fun t ht => by rw [hasB_cg h, k.names t ht])
    have er : allb (b.Vips.f j).Names.n (fun t => decide (t = 0) || !decide ((a.Vips.f j).Names.f t ≤ (a.Vips.f j).Names.f (t - 1))) = allb (b.Vips.f j).Names.n (fun t => decide (t = 0) || !decide ((b.Vips.f j).Names.f t ≤ (b.Vips.f j).Names.f (t - 1))) :=
      allb_congr (fun t ht => by rw [k.names t ht, k.names (t - 1) (by omega)])
    rw [ea, er]
  rw [h.ver, h.bn, h.vn] at *
  rw [e1, e2]
theorem backsL_cg {f g : Nat → S_impl_Backend} : ∀ (m i : Nat), (∀ j, i ≤ j → j < i + m → f j = g j) → backsL f i m = backsL g i m
  | 0, i, _ => rfl
  | m + 1, i, h => by simp only [backsL]; rw [h i (Nat.le_refl _) (by omega), backsL_cg m (i + 1) (fun j h1 h2 => h j (by omega) (by omega))]
theorem namesL_cg {f g : Nat → Int} : ∀ (m i : Nat), (∀ j, i ≤ j → j < i + m → f j = g j) → namesL f i m = namesL g i m
  | 0, i, _ => rfl
  | m + 1, i, h => by simp only [namesL]; rw [h i (Nat.le_refl _) (by omega), namesL_cg m (i + 1) (fun j h1 h2 => h j (by omega) (by omega))]
theorem vipL_cg {u v : S_impl_Vip} (h : VipEq u v) : vipL u = vipL v := by
  unfold vipL
  rw [h.addr, h.port, h.proto, h.len, namesL_cg _ _ (fun j _ hj => h.names j (by omega))]
theorem vipsL_cg {f g : Nat → S_impl_Vip} : ∀ (m i : Nat), (∀ j, i ≤ j → j < i + m → VipEq (f j) (g j)) → vipsL f i m = vipsL g i m
  | 0, i, _ => rfl
  | m + 1, i, h => by simp only [vipsL]; rw [vipL_cg (h i (Nat.le_refl _) (by omega)), vipsL_cg m (i + 1) (fun j h1 h2 => h j (by omega) (by omega))]
theorem confL_cg {a b : S_impl_Config} (h : CEq a b) : confL a = confL b := by
  unfold confL
  rw [h.ver, h.bn, h.vn, backsL_cg _ _ (fun j _ hj => h.backs j (by omega)), vipsL_cg _ _ (fun j _ hj => h.vips j (by omega))]
theorem sameC_of {a b : S_impl_Config} (h : CEq a b) : sameC a b = true := by
  unfold sameC sameB sameV
  rw [h.ver, h.bn, h.vn]
  simp only [beq_self_eq_true, Bool.true_and, Bool.and_eq_true]
  refine ⟨allb_iff.2 (fun i hi => ?_), allb_iff.2 (fun i hi => ?_)⟩
  · rw [h.backs i hi]; simp [eqB]
  · have k := h.vips i hi
    unfold eqV sameN
    rw [k.addr, k.port, k.proto, k.len]
    simp only [beq_self_eq_true, Bool.true_and]
    exact allb_iff.2 (fun t ht => by rw [k.names t ht]; simp)
theorem unp_pack {d : Sl Int} {c : S_impl_Config} (hc : conff c = 0) (hB : Bs (confL c) d.n d.f) : ∃ u, unpT d = okU u ∧ CEq u c := by
  have k := conf1 hc
  have h0 : At d 0 (confL c) := ⟨by rw [hB.len]; omega, fun i hi => by rw [Nat.zero_add]; exact hB.at_ i (by rw [hB.len]; exact hi)⟩
  unfold confL at h0
  have t0 := h0.left.left.left.left
  have t1 := h0.left.left.left.right
  have tB := h0.left.left.right
  have t2 := h0.left.right
  have tV := h0.right
  simp only [List.length_append, byL_len, List.length_cons, List.length_nil, backsL_len, Nat.zero_add] at t1 tB t2 tV
  have hb8 := k.bn
  have hv4 := k.vn
  have w1 : IntKind.wrap .u8 ((c.Backends.n : Nat) : Int) = ((c.Backends.n : Nat) : Int) := by rw [wu8]; omega
  have w2 : IntKind.wrap .u8 ((c.Vips.n : Nat) : Int) = ((c.Vips.n : Nat) : Int) := by rw [wu8]; omega
  rw [w1] at t1
  rw [w2] at t2
  have e0 : u0 d = (c.Version, 4, false) := rd4 t0 k.ver.1 (by have := k.ver.2; omega)
  have e1 : u1 d = (((c.Backends.n : Nat) : Int), 5, false) := by unfold u1; rw [e0]; exact rd1 t1
  obtain ⟨gB, b1, _, b3⟩ := rdB_back c.Backends.n 5 0 0 (fun _ => dflt .impl_Backend) tB (fun j hj => by rw [Nat.zero_add]; exact k.back j hj)
  have eB : uB d = (5 + 7 * c.Backends.n, false, 0 + c.Backends.n, gB) := by unfold uB; rw [e1]; exact b1
  have e2 : u2 d = (((c.Vips.n : Nat) : Int), 5 + 7 * c.Backends.n + 1, false) := by unfold u2; rw [eB]; exact rd1 t2
  obtain ⟨gV, v1, _, v3⟩ := rdV_back c.Vips.n (5 + 7 * c.Backends.n + 1) 0 0 (fun _ => dflt .impl_Vip) tV (fun j hj => by rw [Nat.zero_add]; exact (k.fit hj).1)
  have eV : uV d = (5 + 7 * c.Backends.n + 1 + vipsN c.Vips.f 0 c.Vips.n, false, 0 + c.Vips.n, gV) := by unfold uV; rw [e2]; exact v1
  have hce : CEq (uC d) c := by
    unfold uC
    rw [e0, eB, eV]
    refine ⟨rfl, Nat.zero_add _, fun j hj => ?_, Nat.zero_add _, fun j hj => ?_⟩
    · have := b3 j hj
      simp only [Nat.zero_add] at this
      exact this
    · have := v3 j hj
      simp only [Nat.zero_add] at this
      exact this
  refine ⟨uC d, ?_, hce⟩
  have hr : rowL d = confL c := hB.map
  unfold unpT
  rw [eV, conff_cg hce, hc, confL_cg hce, hr]
  simp
end Go.Proofs.Ytcmfekgdlaffkaa.Pq
