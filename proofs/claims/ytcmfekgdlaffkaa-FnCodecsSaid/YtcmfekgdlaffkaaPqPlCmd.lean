/- Plain laws of commands. Conditions: none. -/
import Derived.Test.YtcmfekgdlaffkaaPqPlMach
namespace Go.Proofs.Ytcmfekgdlaffkaa.Pq
open Go Go.RowKit Go.Proofs Vm
set_option linter.unusedVariables false
set_option linter.unusedSimpArgs false
set_option maxRecDepth 100000
theorem p_needs (fu : Nat) (k : Int) : F_impl_needs fu k = F_spec_l5Needs fu k := by
  unfold F_impl_needs F_spec_l5Needs
  simp only [p_l1In, p_in, rng, Option.bind_some]
  by_cases h : k = 5
  · subst h; rfl
  · by_cases h1 : k = 1
    · subst h1; rfl
    · by_cases h6 : k = 6
      · subst h6; rfl
      · have e5 : (k != 5) = true := by simpa using h
        have e6 : (k != 6) = true := by simpa using h6
        have e1 : (k == 1) = false := by simpa using h1
        have e56 : (decide (5 ≤ k) && decide (k ≤ 6)) = false := by simp; omega
        simp [e5, e6, e1, e56]
theorem p_isNumber (fu : Nat) (x : S_impl_Cmd) : F_impl_isNumber fu x = F_spec_l5Number fu x := by unfold F_impl_isNumber F_spec_l5Number; simp only [p_l1In, p_in, p_isPort]
theorem p_l5Needs (fu : Nat) (k : Int) : ∃ y, F_spec_l5Needs fu k = some y := by
  unfold F_spec_l5Needs
  simp only [p_l1In, Option.bind_some]
  cases (k != 5) <;> cases (k == 1) <;> exact ⟨_, rfl⟩
theorem p_l5Number (fu : Nat) (x : S_impl_Cmd) : ∃ y, F_spec_l5Number fu x = some y := by
  unfold F_spec_l5Number
  simp only [p_l1In, p_l2Port, Option.bind_some]
  cases (x.Kind == 1) <;> cases (x.Kind == 2) <;> cases (x.Kind == 3) <;> cases (x.Kind == 9) <;> exact ⟨_, rfl⟩
theorem p_l5Proto (fu : Nat) (k : Int) : ∃ y, F_spec_l5Proto fu k = some y := by
  unfold F_spec_l5Proto
  cases (k == 6) <;> exact ⟨_, rfl⟩
theorem p_CmdFault (fu : Nat) (x : S_impl_Cmd) : F_impl_CmdFault fu x = F_spec_CmdFault fu x ∧ ∃ y, F_spec_CmdFault fu x = some y := by
  unfold F_impl_CmdFault F_spec_CmdFault
  simp only [p_l1In, p_in, p_needs, p_isName, p_isAddress, p_isNumber, p_isProto, p_l5Version, p_l3Name, p_l2Address]
  obtain ⟨y, hy⟩ := p_l5Needs fu x.Kind
  obtain ⟨m, hm⟩ := p_l5Number fu x
  obtain ⟨p, hp⟩ := p_l5Proto fu x.Proto
  simp only [hy, hm, hp, Option.bind_some]
  obtain ⟨y1, y2, y3, y4⟩ := y
  have he : rng x.Expect (-1) 1000000 = ((!(x.Expect != -1)) || rng x.Expect 0 1000000) := by
    unfold rng
    by_cases h1 : x.Expect = -1
    · simp [h1]
    · have e1 : (x.Expect != -1) = true := by simpa using h1
      rw [e1]
      simp only [Bool.not_true, Bool.false_or]
      by_cases h2 : 0 ≤ x.Expect
      · have : -1 ≤ x.Expect := by omega
        simp [h2, this]
      · have : ¬ -1 ≤ x.Expect := by omega
        simp [h2, this]
  simp only [he]
  generalize rng x.Name 1 999 = n
  generalize rng x.Addr 0 4294967295 = a
  generalize rng x.Expect 0 1000000 = q
  generalize rng x.Kind 1 9 = q0
  generalize (x.Expect != -1) = q1
  generalize (x.Name != 0) = q2
  generalize (x.Addr != 0) = q3
  generalize (x.Number != 0) = q4
  generalize (x.Proto != 0) = q5
  cases q0 <;> cases q1 <;> cases q <;> cases y1 <;> cases y2 <;> cases y3 <;> cases y4 <;> cases n <;> cases a <;> cases m <;> cases p <;> (first | exact ⟨rfl, _, rfl⟩ | (cases q2 <;> cases q3 <;> cases q4 <;> cases q5 <;> exact ⟨rfl, _, rfl⟩))
def cmdf (x : S_impl_Cmd) : Int := (F_spec_CmdFault 0 x).getD 0
theorem s_CmdFault (fu : Nat) (x : S_impl_Cmd) : F_spec_CmdFault fu x = some (cmdf x) := by
  obtain ⟨y, hy⟩ := (p_CmdFault fu x).2
  have h0 : F_spec_CmdFault fu x = F_spec_CmdFault 0 x := rfl
  rw [hy]
  unfold cmdf
  rw [← h0, hy]; rfl
theorem i_CmdFault (fu : Nat) (x : S_impl_Cmd) : F_impl_CmdFault fu x = some (cmdf x) := by rw [(p_CmdFault fu x).1, s_CmdFault]
end Go.Proofs.Ytcmfekgdlaffkaa.Pq
