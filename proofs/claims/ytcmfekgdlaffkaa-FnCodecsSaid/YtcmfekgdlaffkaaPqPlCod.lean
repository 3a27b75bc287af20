/- Commands in bytes. Conditions: none. -/
import Derived.Test.YtcmfekgdlaffkaaPqPlRound2
import Derived.Test.YtcmfekgdlaffkaaPqPlCmd
namespace Go.Proofs.Ytcmfekgdlaffkaa.Pq
open Go Go.RowKit Go.Proofs Vm
set_option linter.unusedVariables false
set_option linter.unusedSimpArgs false
set_option maxRecDepth 100000
structure CmdFit (x : S_impl_Cmd) : Prop where
  kind : 1 ≤ x.Kind ∧ x.Kind ≤ 9
  expect : -1 ≤ x.Expect ∧ x.Expect ≤ 1000000
  name : 0 ≤ x.Name ∧ x.Name ≤ 999
  addr : 0 ≤ x.Addr ∧ x.Addr ≤ 4294967295
  number : 0 ≤ x.Number ∧ x.Number ≤ 65535
  proto : 0 ≤ x.Proto ∧ x.Proto ≤ 255
theorem num_fit {fu : Nat} {x : S_impl_Cmd} (h : F_spec_l5Number fu x = some true) : 0 ≤ x.Number ∧ x.Number ≤ 65535 := by
  unfold F_spec_l5Number F_spec_l2Port at h
  simp only [p_l1In, Option.bind_some] at h
  cases e1 : x.Kind == 1 <;> cases e2 : x.Kind == 2 <;> cases e3 : x.Kind == 3 <;> cases e9 : x.Kind == 9 <;> rw [e1] at h <;> simp only [cond_true, cond_false, e2, e3, e9, Option.some.injEq, rng, Bool.and_eq_true, decide_eq_true_eq] at h <;> omega
theorem pro_fit {fu : Nat} {p : Int} (h : F_spec_l5Proto fu p = some true) : 0 ≤ p ∧ p ≤ 255 := by
  unfold F_spec_l5Proto at h
  cases e1 : p == 6 with
  | true => have : p = 6 := by simpa using e1
            omega
  | false =>
    rw [e1] at h
    simp only [cond_false, Option.bind_some, Option.some.injEq, beq_iff_eq] at h
    omega
theorem cmd_fit {x : S_impl_Cmd} (h : cmdf x = 0) : CmdFit x := by
  have h0 := s_CmdFault 0 x
  rw [h] at h0
  obtain ⟨y, hy⟩ := p_l5Needs 0 x.Kind
  obtain ⟨m, hm⟩ := p_l5Number 0 x
  obtain ⟨p, hp⟩ := p_l5Proto 0 x.Proto
  unfold F_spec_CmdFault at h0
  simp only [p_l1In, p_l5Version, p_l3Name, p_l2Address, hy, hm, hp, Option.bind_some] at h0
  obtain ⟨y1, y2, y3, y4⟩ := y
  have key : rng x.Kind 1 9 = true ∧ ((x.Expect != -1) = true → rng x.Expect 0 1000000 = true) ∧ (y1 = true → rng x.Name 1 999 = true) ∧ (y2 = true → rng x.Addr 0 4294967295 = true) ∧ (y3 = true → m = true) ∧ (y4 = true → p = true) ∧
      (y1 = false → (x.Name != 0) = false) ∧ (y2 = false → (x.Addr != 0) = false) ∧ (y3 = false → (x.Number != 0) = false) ∧ (y4 = false → (x.Proto != 0) = false) := by
    revert h0
    generalize rng x.Name 1 999 = n
    generalize rng x.Addr 0 4294967295 = a
    generalize rng x.Expect 0 1000000 = q
    generalize rng x.Kind 1 9 = q0
    generalize (x.Expect != -1) = q1
    generalize (x.Name != 0) = q2
    generalize (x.Addr != 0) = q3
    generalize (x.Number != 0) = q4
    generalize (x.Proto != 0) = q5
    clear hy hm hp
    cases q0 <;> cases q1 <;> cases q <;> cases y1 <;> cases y2 <;> cases y3 <;> cases y4 <;> cases n <;> cases a <;> cases m <;> cases p <;> (first | (intro h0; cases h0; done) | (cases q2 <;> cases q3 <;> cases q4 <;> cases q5 <;> (first | (intro h0; cases h0; done) | (intro _; decide))))
  obtain ⟨k0, k1, k2, k3, k4, k5, k6, k7, k8, k9⟩ := key
  simp only [rng, Bool.and_eq_true, decide_eq_true_eq, bne_iff_ne, ne_eq, bne_eq_false_iff_eq] at k0 k1 k2 k3 k6 k7 k8 k9
  refine ⟨k0, ?_, ?_, ?_, ?_, ?_⟩
  · by_cases e : x.Expect = -1
    · omega
    · have := k1 e; omega
  · cases hy1 : y1 with
    | true => have := k2 hy1; omega
    | false => have := k6 hy1; omega
  · cases hy1 : y2 with
    | true => exact k3 hy1
    | false => have := k7 hy1; omega
  · cases hy1 : y3 with
    | true => have := k4 hy1; rw [this] at hm; exact num_fit hm
    | false => have := k8 hy1; omega
  · cases hy1 : y4 with
    | true => have := k5 hy1; rw [this] at hp; exact pro_fit hp
    | false => have := k9 hy1; omega
end Go.Proofs.Ytcmfekgdlaffkaa.Pq
