/- Plain laws of new nodes and of nodes that crash. Conditions: none. -/
import Derived.Test.YtjdgfkmiaikegaaPdPlMark
namespace Go.Proofs.Ytjdgfkmiaikegaa.Pd
open Go Go.RowKit Go.Proofs Vm
set_option linter.unusedVariables false
set_option linter.unusedSimpArgs false
set_option maxRecDepth 100000

theorem e_MailS0 {fu : Nat} (hf : 2000000 ≤ fu) (x : Sl S_impl_Mail) (hx : x.n = 0) : F_laws_eqMailS fu x x = some true := by
  unfold F_laws_eqMailS
  simp only [bne_self_eq_false, cond_false]
  refine stepL 0 (fun i => (i : Int)) (by omega) rfl (fun i go hi => absurd hi (Nat.not_lt_zero _)) (fun go => ?_)
  unfold F_laws_eqMailS_B0
  simp [hx]
theorem h_MailS0 {fu : Nat} (hf : 2000000 ≤ fu) (x : Sl S_impl_Mail) (hx : x.n = 0) (k : Int) : F_laws_heldMailS fu x k = some k := by
  unfold F_laws_heldMailS
  refine stepL 0 (fun i => (k, (i : Int))) (by omega) rfl (fun i go hi => absurd hi (Nat.not_lt_zero _)) (fun go => ?_)
  unfold F_laws_heldMailS_B0
  simp [hx]
theorem e_NodeResult0 {fu : Nat} (hf : 2000000 ≤ fu) (x : S_impl_NodeResult) (hx : NodeLen x.Node) (hs : x.Send.n = 0) : F_laws_eqNodeResult fu x x = some true := by
  unfold F_laws_eqNodeResult
  simp [e_Node hf x.Node hx, e_MailS0 hf x.Send hs]

/-- A node's marks, in order. -/
def markEnd (n1 n2 n3 n4 : Nat) : Int := 1 + 9 * (n1 : Int) + 1 * (n2 : Int) + 1 * (n3 : Int) + 1 * (n4 : Int)
theorem m_Node {fu : Nat} (hf : 2000000 ≤ fu) (a b c d e g : Int) (n1 n2 n3 n4 m1 m2 m3 m4 : Nat) (f1 : Nat → S_impl_Entry) (f2 f3 f4 : Nat → Int) (h1 : n1 ≤ 1048576) (h2 : n2 ≤ 1048576) (h3 : n3 ≤ 1048576) (h4 : n4 ≤ 1048576) :
    F_laws_markNode_L fu a b c d n1 e g n2 n3 n4 1 m1 f1 m2 f2 m3 f3 m4 f4 = some (markEnd n1 n2 n3 n4, (m1, marks mkE 9 1 n1 f1), (m2, marks id 1 (1 + 9 * (n1 : Int)) n2 f2), (m3, marks id 1 (1 + 9 * (n1 : Int) + 1 * (n2 : Int)) n3 f3), (m4, marks id 1 (1 + 9 * (n1 : Int) + 1 * (n2 : Int) + 1 * (n3 : Int)) n4 f4)) := by
  unfold F_laws_markNode_L
  simp only [m_EntryS hf n1 1 m1 f1 h1 (by omega) (by omega), m_Int64S hf n2 (1 + 9 * (n1 : Int)) m2 f2 h2 (by omega) (by omega), m_Int64S hf n3 (1 + 9 * (n1 : Int) + 1 * (n2 : Int)) m3 f3 h3 (by omega) (by omega),
    m_Int64S hf n4 (1 + 9 * (n1 : Int) + 1 * (n2 : Int) + 1 * (n3 : Int)) m4 f4 h4 (by omega) (by omega), Option.bind_some]
  rfl
theorem h_Node {fu : Nat} (hf : 2000000 ≤ fu) (a b c d e g : Int) (n1 n2 n3 n4 : Nat) (f1 : Nat → S_impl_Entry) (f2 f3 f4 : Nat → Int) (h1 : n1 ≤ 1048576) (h2 : n2 ≤ 1048576) (h3 : n3 ≤ 1048576) (h4 : n4 ≤ 1048576) :
    F_laws_heldNode fu ⟨a, b, c, d, ⟨none, n1, marks mkE 9 1 n1 f1⟩, e, g, ⟨none, n2, marks id 1 (1 + 9 * (n1 : Int)) n2 f2⟩, ⟨none, n3, marks id 1 (1 + 9 * (n1 : Int) + 1 * (n2 : Int)) n3 f3⟩, ⟨none, n4, marks id 1 (1 + 9 * (n1 : Int) + 1 * (n2 : Int) + 1 * (n3 : Int)) n4 f4⟩⟩ 1 = some (markEnd n1 n2 n3 n4) := by
  unfold F_laws_heldNode
  have k1 : ¬ (1 + 9 * (n1 : Int) < 0) := by omega
  have k2 : ¬ (1 + 9 * (n1 : Int) + 1 * (n2 : Int) < 0) := by omega
  have k3 : ¬ (1 + 9 * (n1 : Int) + 1 * (n2 : Int) + 1 * (n3 : Int) < 0) := by omega
  have k4 : ¬ (1 + 9 * (n1 : Int) + 1 * (n2 : Int) + 1 * (n3 : Int) + 1 * (n4 : Int) < 0) := by omega
  simp only [h_EntryS hf ⟨none, n1, marks mkE 9 1 n1 f1⟩ 1 h1 (by omega) (by omega) (fun i hi => marks_at hi), h_Int64S hf ⟨none, n2, marks id 1 (1 + 9 * (n1 : Int)) n2 f2⟩ (1 + 9 * (n1 : Int)) h2 (by omega) (by omega) (fun i hi => marks_at hi),
    h_Int64S hf ⟨none, n3, marks id 1 (1 + 9 * (n1 : Int) + 1 * (n2 : Int)) n3 f3⟩ (1 + 9 * (n1 : Int) + 1 * (n2 : Int)) h3 (by omega) (by omega) (fun i hi => marks_at hi), h_Int64S hf ⟨none, n4, marks id 1 (1 + 9 * (n1 : Int) + 1 * (n2 : Int) + 1 * (n3 : Int)) n4 f4⟩ (1 + 9 * (n1 : Int) + 1 * (n2 : Int) + 1 * (n3 : Int)) h4 (by omega) (by omega) (fun i hi => marks_at hi),
    Option.bind_some, k1, k2, k3, k4, decide_false, cond_false]
  rfl

/-- A result that tells a node without votes and mails. -/
def likeC (x : Option S_impl_NodeResult) (c a b d e : Int) (n : Nat) (f : Nat → S_impl_Entry) : Prop :=
  ∃ z1 z2 z3 z4, x = some ⟨c, ⟨a, b, d, e, ⟨z1, n, f⟩, 0, 0, ⟨z2, 0, fun _ => dflt .i64⟩, ⟨z3, 0, fun _ => dflt .i64⟩, ⟨z4, 0, fun _ => dflt .i64⟩⟩, ⟨some true, 0, fun _ => dflt .impl_Mail⟩⟩

theorem len0 {a b d e : Int} {n : Nat} {f : Nat → S_impl_Entry} {z1 z2 z3 z4 : Option Bool} (hn : n ≤ 1048576) : NodeLen (⟨a, b, d, e, ⟨z1, n, f⟩, 0, 0, ⟨z2, 0, fun _ => dflt .i64⟩, ⟨z3, 0, fun _ => dflt .i64⟩, ⟨z4, 0, fun _ => dflt .i64⟩⟩ : S_impl_Node) := ⟨hn, Nat.zero_le _, Nat.zero_le _, Nat.zero_le _⟩

end Go.Proofs.Ytjdgfkmiaikegaa.Pd
