/- Plain laws of mails: CommitOf, MailFault. Conditions: none. -/
import Derived.Test.YtmnbmponjhglcaaPcPlNode2
namespace Go.Proofs.Ytmnbmponjhglcaa.Pc
open Go Go.RowKit Go.Proofs Vm
set_option linter.unusedVariables false
set_option linter.unusedSimpArgs false
set_option maxRecDepth 100000

def zeros (m : S_impl_Mail) : Bool := bif m.Kind == 1 then m.Commit == 0 else bif m.Kind == 2 then (m.Index == 0 && (m.Last == 0 && m.Commit == 0)) else bif m.Kind == 4 then (m.Last == 0 && m.Commit == 0) else true
def mhead (x : S_impl_Node) (m : S_impl_Mail) : Bool := rng m.From 0 (pm x) && (!(m.From == x.Id) && (!(m.To != x.Id) && (rng m.Term 1 100000 && (rng m.Index 0 40 && (rng m.Last 0 m.Term && rng m.Commit 0 40)))))
def ments (m : S_impl_Mail) : Bool := decide ((m.Entries.n : Int) > 0) && ((m.Kind != 3) || (decide ((lastE m.Entries).Term > m.Term) || decide ((m.Entries.f 0).Term < m.Last)))
def mform (m : S_impl_Mail) : Bool := (m.Ok && ((m.Kind != 2) && (m.Kind != 4))) || (!zeros m || (m.Index == 0 && m.Last != 0))
/-- What is not right of a mail to a right node. -/
def mailf (x : S_impl_Node) (m : S_impl_Mail) : Int :=
  bif !rng m.Kind 1 4 then 5 else bif !mhead x m then 3 else bif logf m.Entries != 0 then logf m.Entries else bif ments m then 1 else bif mform m then 1 else 0

theorem s_Zeros (fu : Nat) (m : S_impl_Mail) : F_spec_l8Zeros fu m = some (zeros m) := by
  unfold F_spec_l8Zeros zeros
  cases (m.Kind == 1) <;> cases (m.Kind == 2) <;> cases (m.Kind == 4) <;> cases (m.Index == 0) <;> cases (m.Last == 0) <;> rfl

theorem ments_b {m : S_impl_Mail} {γ : Type} (k : Bool → Option γ) : (((bif (decide (((m.Entries.n : Nat) : Int) > 0)) then (bif (m.Kind != 3) then (some true) else (bif (decide ((lastE m.Entries).Term > m.Term)) then
    (some true) else ((bif (decide (0 ≤ (0 : Int)) && decide ((Int.toNat 0) < m.Entries.n)) then some () else none : Option Unit).bind fun _ => (some (decide ((m.Entries.f (Int.toNat 0)).Term < m.Last)))))) else
    (some false)) : Option Bool).bind k) = k (ments m) := by
  unfold ments
  by_cases h : ((m.Entries.n : Nat) : Int) > 0
  · have h' : 0 < m.Entries.n := by omega
    have e0 : (Int.toNat 0) = 0 := rfl
    simp only [h, decide_true, cond_true, Bool.true_and, e0, h', Int.le_refl, Bool.and_self, Option.bind_some]
    cases (m.Kind != 3) <;> cases decide ((lastE m.Entries).Term > m.Term) <;> rfl
  · simp only [h, decide_false, cond_false, Bool.false_and, Option.bind_some]

theorem s_Mail0 {fu : Nat} (hf : 2000000 ≤ fu) (x : S_impl_Node) (m : S_impl_Mail) (hm : m.Entries.n ≤ 1048576) : F_spec_l8Mail fu x m = some (mailf x m) := by
  unfold F_spec_l8Mail mailf
  simp only [p_l1In, s_Id, s_LogFault hf, s_LastOf fu m.Entries hm, s_Zeros, Option.bind_some, ments_b]
  have eh : ((bif (!rng m.From 0 (pm x)) then (some true) else (bif (m.From == x.Id) then (some true) else (bif (m.To != x.Id) then (some true) else (bif (!rng m.Term 1 100000) then (some true) else (bif (!rng m.Index 0 40) then (some true) else (bif (!rng m.Last 0 m.Term) then (some true) else (some (!rng m.Commit 0 40)))))))) : Option Bool) = some (!mhead x m) := by
    unfold mhead
    cases rng m.From 0 (pm x) <;> (try rfl) <;> cases (m.From == x.Id) <;> (try rfl) <;> cases (m.To != x.Id) <;> (try rfl) <;> cases rng m.Term 1 100000 <;> (try rfl) <;> cases rng m.Index 0 40 <;> (try rfl) <;> cases rng m.Last 0 m.Term <;> rfl
  have ef : ((bif m.Ok then (bif (m.Kind != 2) then (bif (m.Kind != 4) then (some true) else (bif (!zeros m) then (some true) else (bif (m.Index == 0) then (some (m.Last != 0)) else (some false)))) else (bif (!zeros m) then (some true) else (bif (m.Index == 0) then (some (m.Last != 0)) else (some false)))) else (bif (!zeros m) then (some true) else (bif (m.Index == 0) then (some (m.Last != 0)) else (some false)))) : Option Bool) = some (mform m) := by
    unfold mform
    cases m.Ok <;> cases (m.Kind != 2) <;> cases (m.Kind != 4) <;> cases zeros m <;> cases (m.Index == 0) <;> rfl
  rw [eh, ef]
  simp only [Option.bind_some]
  cases rng m.Kind 1 4 <;> (try rfl)
  cases mhead x m <;> (try rfl)
  simp only [Bool.not_true, cond_false]
  cases (logf m.Entries != 0) <;> (try rfl)
  cases ments m <;> cases mform m <;> rfl

/-- What is not right of a mail to a node. -/
def mailF (x : S_impl_Node) (m : S_impl_Mail) : Int := bif nodef x != 0 then nodef x else mailf x m
theorem i_MailFault {fu : Nat} (hf : 2000000 ≤ fu) (x : S_impl_Node) (m : S_impl_Mail) (hx : NodeLen x) (hm : m.Entries.n ≤ 1048576) : F_impl_MailFault fu x m = some (mailF x m) := by
  unfold F_impl_MailFault mailF mailf
  simp only [p_in, i_isId, i_NodeFault hf x hx, i_LogFault hf, i_last fu m.Entries hm, Option.bind_some, ments_b]
  cases (nodef x != 0) <;> (try rfl)
  simp only [cond_false]
  cases rng m.Kind 1 4 <;> (try rfl)
  simp only [Bool.not_true, cond_false]
  unfold mhead
  cases rng m.From 0 (pm x) <;> (try rfl)
  cases (m.From == x.Id) <;> (try rfl)
  cases (m.To != x.Id) <;> (try rfl)
  cases rng m.Term 1 100000 <;> (try rfl)
  simp only [Bool.not_true, Bool.not_false, cond_false, cond_true, Option.bind_some, Bool.true_and]
  cases rng m.Index 0 40 <;> (try rfl)
  cases rng m.Last 0 m.Term <;> (try rfl)
  cases rng m.Commit 0 40 <;> (try rfl)
  simp only [Bool.not_true, Bool.not_false, cond_false, cond_true, Option.bind_some, Bool.true_and]
  cases (logf m.Entries != 0) <;> (try rfl)
  simp only [cond_false]
  unfold mform zeros
  simp only [bne]
  have k21 : (m.Kind == 2) = true → (m.Kind == 1) = false := by intro h; simp at h ⊢; omega
  cases h2 : (m.Kind == 2)
  · cases (m.Kind == 1) <;> cases (m.Kind == 4) <;> cases ments m <;> cases m.Ok <;> cases (m.Index == 0) <;> cases (m.Last == 0) <;> cases (m.Commit == 0) <;> rfl
  · rw [k21 h2]
    cases (m.Kind == 4) <;> cases ments m <;> cases m.Ok <;> cases (m.Index == 0) <;> cases (m.Last == 0) <;> cases (m.Commit == 0) <;> rfl

def toM (x : S_laws_Mail) : S_impl_Mail := ⟨x.Kind, x.From, x.To, x.Term, x.Index, x.Last, x.Commit, x.Ok, cp toE d_Entry x.Entries⟩
theorem e_Mail {fu : Nat} (hf : 2000000 ≤ fu) (x : S_impl_Mail) (hx : x.Entries.n ≤ 1048576) : F_laws_eqMail fu x x = some true := by
  unfold F_laws_eqMail
  simp [e_EntryS hf x.Entries hx]
theorem sz_Mail (fu : Nat) (x : S_laws_Mail) (hw : W_laws_Mail x) {left : Int} (h0 : 0 ≤ left) (h1 : left ≤ 1048576) : ∃ y, F_laws_szMail fu x left = some y ∧ Szd left y (x.Entries.n ≤ 1048576) := by
  obtain ⟨-, -, -, -, -, -, -, -, w⟩ := hw
  unfold F_laws_szMail
  simp only [sz_EntryS', Option.bind_some]
  rcases (sz_one h0 h1 w.1).neg with a | ⟨a1, a2, a3⟩
  · exact ⟨-1, by simp [a], ⟨.inl (by omega)⟩⟩
  · simp only [show ¬ szf left x.Entries.n < 0 by omega, decide_false, cond_false]
    exact ⟨_, rfl, ⟨.inr ⟨a1, by omega, a3⟩⟩⟩

end Go.Proofs.Ytmnbmponjhglcaa.Pc
