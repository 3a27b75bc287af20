/- Plain laws of the log: what the reference and the program compute is one. Conditions: none. -/
import Derived.Test.YtjdgfkmiaikegaaPeF8
import Derived.Test.YtjdgfkmiaikegaaVmP
namespace Go.Proofs.Ytjdgfkmiaikegaa.Pe
open Go Go.RowKit Go.Proofs Vm
set_option linter.unusedVariables false
set_option linter.unusedSimpArgs false
set_option maxRecDepth 100000
theorem wsucc {i : Nat} (h : i < 4611686018427387904) : IntKind.wrap .i64 ((i : Int) + 1) = ((i + 1 : Nat) : Int) := by
 rw [wrap64 (by omega) (by omega)]; omega
theorem wpred {i : Nat} (h0 : 0 < i) (h : i < 4611686018427387904) : IntKind.wrap .i64 ((i : Int) - 1) = ((i - 1 : Nat) : Int) := by
 rw [wrap64 (by omega) (by omega)]; omega
def rng (a b c : Int) : Bool := decide (b ≤ a) && decide (a ≤ c)
theorem p_l1In (fu : Nat) (a b c : Int) : F_spec_l1In fu a b c = some (rng a b c) := by
 unfold F_spec_l1In rng
 by_cases h : b ≤ a <;> simp [h]
theorem p_in (fu : Nat) (a b c : Int) : F_impl_in fu a b c = some (rng a b c) := by
 unfold F_impl_in rng
 by_cases h : b ≤ a <;> simp [h]
theorem p_needs (fu : Nat) (k : Int) : F_impl_needs fu k = F_spec_l5Needs fu k := by
 unfold F_impl_needs F_spec_l5Needs
 simp only [p_l1In, p_in, rng, Option.bind_some]
 by_cases h : k = 5
 ·subst h; rfl
 ·by_cases h1 : k = 1
  ·subst h1; rfl
  ·by_cases h6 : k = 6
   ·subst h6; rfl
   ·have e5 : (k != 5) = true := by simpa using h
    have e6 : (k != 6) = true := by simpa using h6
    have e1 : (k == 1) = false := by simpa using h1
    have e56 : (decide (5 ≤ k) && decide (k ≤ 6)) = false := by simp; omega
    simp [e5, e6, e1, e56]
theorem p_isName (fu : Nat) (k : Int) : F_impl_isName fu k = F_spec_l3Name fu k := by unfold F_impl_isName F_spec_l3Name; rw [p_l1In, p_in]
theorem p_isAddress (fu : Nat) (k : Int) : F_impl_isAddress fu k = F_spec_l2Address fu k := by unfold F_impl_isAddress F_spec_l2Address; rw [p_l1In, p_in]
theorem p_isPort (fu : Nat) (k : Int) : F_impl_isPort fu k = F_spec_l2Port fu k := by unfold F_impl_isPort F_spec_l2Port; rw [p_l1In, p_in]
theorem p_isNumber (fu : Nat) (x : S_impl_Cmd) : F_impl_isNumber fu x = F_spec_l5Number fu x := by unfold F_impl_isNumber F_spec_l5Number; simp only [p_l1In, p_in, p_isPort]
theorem p_isProto (fu : Nat) (k : Int) : F_impl_isProto fu k = F_spec_l5Proto fu k := rfl
theorem p_l5Needs (fu : Nat) (k : Int) : ∃ y, F_spec_l5Needs fu k = some y := by
 unfold F_spec_l5Needs
 simp only [p_l1In, Option.bind_some]
 cases (k != 5) <;> cases (k == 1) <;> exact ⟨_, rfl⟩
theorem p_l3Name (fu : Nat) (k : Int) : F_spec_l3Name fu k = some (rng k 1 999) := by unfold F_spec_l3Name; simp [p_l1In]
theorem p_l2Address (fu : Nat) (k : Int) : F_spec_l2Address fu k = some (rng k 0 4294967295) := by unfold F_spec_l2Address; simp [p_l1In]
theorem p_l2Port (fu : Nat) (k : Int) : F_spec_l2Port fu k = some (rng k 0 65535) := by unfold F_spec_l2Port; simp [p_l1In]
theorem p_l5Version (fu : Nat) (k : Int) : F_spec_l5Version fu k = some (rng k 0 1000000) := by unfold F_spec_l5Version; simp [p_l1In]
theorem p_l5Number (fu : Nat) (x : S_impl_Cmd) : ∃ y, F_spec_l5Number fu x = some y := by
 unfold F_spec_l5Number
 simp only [p_l1In, p_l2Port, Option.bind_some]
 cases (x.Kind == 1) <;> cases (x.Kind == 2) <;> cases (x.Kind == 3) <;> cases (x.Kind == 9) <;> exact ⟨_, rfl⟩
theorem p_l5Proto (fu : Nat) (k : Int) : ∃ y, F_spec_l5Proto fu k = some y := by
 unfold F_spec_l5Proto
 cases (k == 6) <;> exact ⟨_, rfl⟩
theorem p_CmdFault (fu : Nat) (x : S_impl_Cmd) : F_impl_CmdFault fu x = F_spec_CmdFault fu x ∧ ∃ y, F_spec_CmdFault fu x = some y := by
 unfold F_impl_CmdFault F_spec_CmdFault
 simp only [p_l1In, p_in, p_needs, p_isName, p_isAddress, p_isNumber, p_isProto, p_l5Version, p_l3Name, p_l2Address]
 obtain ⟨y, hy⟩ := p_l5Needs fu x.Kind
 obtain ⟨m, hm⟩ := p_l5Number fu x
 obtain ⟨p, hp⟩ := p_l5Proto fu x.Proto
 simp only [hy, hm, hp, Option.bind_some]
 obtain ⟨y1, y2, y3, y4⟩ := y
 have he : rng x.Expect (-1) 1000000 = ((!(x.Expect != -1)) || rng x.Expect 0 1000000) := by
  unfold rng
  by_cases h1 : x.Expect = -1
  ·simp [h1]
  ·have e1 : (x.Expect != -1) = true := by simpa using h1
   rw [e1]
   simp only [Bool.not_true, Bool.false_or]
   by_cases h2 : 0 ≤ x.Expect
   ·have : -1 ≤ x.Expect := by omega
    simp [h2, this]
   ·have : ¬ -1 ≤ x.Expect := by omega
    simp [h2, this]
 simp only [he]
 generalize rng x.Name 1 999 = n
 generalize rng x.Addr 0 4294967295 = a
 generalize rng x.Expect 0 1000000 = q
 generalize rng x.Kind 1 9 = q0
 generalize (x.Expect != -1) = q1
 generalize (x.Name != 0) = q2
 generalize (x.Addr != 0) = q3
 generalize (x.Number != 0) = q4
 generalize (x.Proto != 0) = q5
 cases q0 <;> cases q1 <;> cases q <;> cases y1 <;> cases y2 <;> cases y3 <;> cases y4 <;> cases n <;> cases a <;> cases m <;> cases p <;> (first | exact ⟨rfl, _, rfl⟩ | (cases q2 <;> cases q3 <;> cases q4 <;> cases q5 <;> exact ⟨rfl, _, rfl⟩))
def cmdf (x : S_impl_Cmd) : Int := (F_spec_CmdFault 0 x).getD 0
theorem s_CmdFault (fu : Nat) (x : S_impl_Cmd) : F_spec_CmdFault fu x = some (cmdf x) := by
 obtain ⟨y, hy⟩ := (p_CmdFault fu x).2
 have h0 : F_spec_CmdFault fu x = F_spec_CmdFault 0 x := rfl
 rw [hy]
 unfold cmdf
 rw [← h0, hy]; rfl
theorem i_CmdFault (fu : Nat) (x : S_impl_Cmd) : F_impl_CmdFault fu x = some (cmdf x) := by rw [(p_CmdFault fu x).1, s_CmdFault]
def entf (x : S_impl_Entry) : Int :=
 bif (!rng x.Term 1 100000 || !rng x.Client 0 999 || !rng x.Seq 0 1000000) then 3 else bif (!((x.Client == 0) == (x.Seq == 0))) then 1 else bif (x.Client != 0) then cmdf x.Cmd else
  bif (!((x.Cmd.Kind == 0) && ((x.Cmd.Expect == 0) && ((x.Cmd.Name == 0) && ((x.Cmd.Addr == 0) && ((x.Cmd.Number == 0) && ((x.Cmd.Proto == 0) && true))))))) then 1 else 0
theorem s_EntryFault (fu : Nat) (x : S_impl_Entry) : F_spec_EntryFault fu x = some (entf x) := by
 unfold F_spec_EntryFault entf
 simp only [p_l1In, s_CmdFault, Option.bind_some]
 cases rng x.Term 1 100000 <;> cases rng x.Client 0 999 <;> cases rng x.Seq 0 1000000 <;> (try rfl) <;> simp only [Bool.not_true, cond_false, Option.bind_some, Bool.or_self] <;>
  cases (!((x.Client == 0) == (x.Seq == 0))) <;> cases (x.Client != 0) <;> (try rfl) <;> simp only [cond_false] <;>
  (cases (!((x.Cmd.Kind == 0) && ((x.Cmd.Expect == 0) && ((x.Cmd.Name == 0) && ((x.Cmd.Addr == 0) && ((x.Cmd.Number == 0) && ((x.Cmd.Proto == 0) && true))))))) <;> rfl)
theorem i_EntryFault (fu : Nat) (x : S_impl_Entry) : F_impl_EntryFault fu x = some (entf x) := by
 have : F_impl_EntryFault fu x = F_spec_EntryFault fu x := by
  unfold F_impl_EntryFault F_spec_EntryFault
  simp only [p_l1In, p_in, s_CmdFault, i_CmdFault]
 rw [this, s_EntryFault]
def d_Cmd : S_impl_Cmd := ⟨0, 0, 0, 0, 0, 0⟩
def d_Entry : S_impl_Entry := ⟨0, 0, 0, d_Cmd⟩
def logAt (x : Sl S_impl_Entry) (i : Nat) : Option Int := bif entf (x.f i) != 0 then some (entf (x.f i)) else bif decide (0 < i) && decide ((x.f i).Term < (x.f (i - 1)).Term) then some 1 else none
def logf (x : Sl S_impl_Entry) : Int := if 40 < x.n then 2 else (scan (logAt x) x.n 0).getD 0
theorem s_LogFault {fu : Nat} (hf : 2000000 ≤ fu) (x : Sl S_impl_Entry) : F_spec_LogFault fu x = some (logf x) := by
 unfold F_spec_LogFault logf
 by_cases h40 : 40 < x.n
 ·have : ((x.n : Int) > 40) := by omega
  simp [h40, this]
 ·have h40' : ¬ ((x.n : Int) > 40) := by omega
  simp only [h40', decide_false, cond_false, if_neg h40]
  have h := L_scan (B := fun w0 go0 => F_spec_LogFault_B0 fu x (fun z124 => (some z124)) (some 1) (some 0) w0 go0) (fun i => (i : Int)) x.n (logAt x) (fun c => some c) (some 0)
   (fun i go hi => by
    unfold F_spec_LogFault_B0 logAt
    simp only [Int.toNat_natCast, Int.natCast_nonneg, Int.ofNat_lt, hi, decide_true, Bool.and_self, cond_true, Option.bind_some, s_EntryFault]
    cases (entf (x.f i) != 0) with
    | true => rfl
    | false =>
     simp only [cond_false]
     by_cases h0 : 0 < i
     ·have h0' : (i : Int) > 0 := by omega
      have hp : i - 1 < x.n := by omega
      simp only [h0', decide_true, cond_true, wpred h0 (show i < 4611686018427387904 by omega), Int.toNat_natCast, Int.natCast_nonneg, hp, Bool.and_self, Option.bind_some, h0, Bool.true_and, wsucc (show i < 4611686018427387904 by omega)]
      cases decide ((x.f i).Term < (x.f (i - 1)).Term) <;> rfl
     ·have h0' : ¬ (i : Int) > 0 := by omega
      simp only [h0', decide_false, cond_false, Option.bind_some, h0, Bool.false_and, wsucc (show i < 4611686018427387904 by omega)])
   (fun go => by unfold F_spec_LogFault_B0; simp) x.n 0 fu (by omega) (by omega)
  rw [show ((0 : Nat) : Int) = 0 from rfl] at h
  rw [h]
  cases scan (logAt x) x.n 0 <;> rfl
theorem i_LogFault {fu : Nat} (hf : 2000000 ≤ fu) (x : Sl S_impl_Entry) : F_impl_LogFault fu x = some (logf x) := by
 unfold F_impl_LogFault logf
 by_cases h40 : 40 < x.n
 ·have : ((x.n : Int) > 40) := by omega
  simp [h40, this]
 ·have h40' : ¬ ((x.n : Int) > 40) := by omega
  simp only [h40', decide_false, cond_false, if_neg h40]
  have h := L_scan (B := fun w0 go0 => F_impl_LogFault_B0 fu x x ((x.n : Nat) : Int) (fun z127 z128 z129 z130 z131 z132 z133 z134 z135 z136 => (some z127)) (fun z137 z138 z139 z140 z141 z142 z143 z144 z145 => (some 1)) (some 0) w0 go0) (fun i => (i : Int)) x.n (logAt x) (fun c => some c) (some 0)
   (fun i go hi => by
    unfold F_impl_LogFault_B0 logAt
    simp only [Int.toNat_natCast, Int.natCast_nonneg, Int.ofNat_lt, hi, decide_true, Bool.and_self, cond_true, Option.bind_some, i_EntryFault]
    cases (entf (x.f i) != 0) with
    | true => rfl
    | false =>
     simp only [cond_false]
     by_cases h0 : 0 < i
     ·have h0' : (i : Int) > 0 := by omega
      have hp : i - 1 < x.n := by omega
      simp only [h0', decide_true, cond_true, wpred h0 (show i < 4611686018427387904 by omega), Int.toNat_natCast, Int.natCast_nonneg, hp, Bool.and_self, Option.bind_some, h0, Bool.true_and, wsucc (show i < 4611686018427387904 by omega)]
      cases decide ((x.f i).Term < (x.f (i - 1)).Term) <;> rfl
     ·have h0' : ¬ (i : Int) > 0 := by omega
      simp only [h0', decide_false, cond_false, Option.bind_some, h0, Bool.false_and, wsucc (show i < 4611686018427387904 by omega)])
   (fun go => by unfold F_impl_LogFault_B0; simp) x.n 0 fu (by omega) (by omega)
  rw [show ((0 : Nat) : Int) = 0 from rfl] at h
  rw [h]
  cases scan (logAt x) x.n 0 <;> rfl
theorem logf_len {x : Sl S_impl_Entry} (h : logf x = 0) : x.n ≤ 40 := by
 unfold logf at h
 split at h
 ·cases h
 ·omega
end Go.Proofs.Ytjdgfkmiaikegaa.Pe

