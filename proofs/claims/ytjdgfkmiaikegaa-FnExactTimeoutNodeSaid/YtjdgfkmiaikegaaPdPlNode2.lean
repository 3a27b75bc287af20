/- Plain laws of nodes: NodeFault. Conditions: none. -/
import Derived.Test.YtjdgfkmiaikegaaPdPlNode
namespace Go.Proofs.Ytjdgfkmiaikegaa.Pd
open Go Go.RowKit Go.Proofs Vm
set_option linter.unusedVariables false
set_option linter.unusedSimpArgs false
set_option maxRecDepth 100000

def szf (left : Int) (n : Nat) : Int := if IntKind.wrap .i64 (left - (n : Int)) < 0 then -1 else IntKind.wrap .i64 (left - (n : Int))
theorem szf_cut {left : Int} {n : Nat} (h0 : 0 ≤ left) (h1 : left ≤ 1048576) (hn : n ≤ maxLen) (h : ¬ szf left n < 0) : szf left n = left - n ∧ (n : Int) ≤ left := sz_cut h0 h1 hn rfl h
theorem sz_EntryS' (fu : Nat) (x : Sl S_laws_Entry) (left : Int) : F_laws_szEntryS fu x left = some (szf left x.n) := sz_EntryS fu x left
theorem sz_Int64S (fu : Nat) (x : Sl Int) (left : Int) : F_laws_szInt64S fu x left = some (szf left x.n) := by
  unfold F_laws_szInt64S szf
  by_cases h : IntKind.wrap .i64 (left - (x.n : Int)) < 0 <;> simp [h]

/-- What is left, and what holds where nothing is short. -/
structure Szd (left y : Int) (p : Prop) : Prop where
  neg : y < 0 ∨ (0 ≤ y ∧ y ≤ left ∧ p)

theorem sz_one {left : Int} {n : Nat} (h0 : 0 ≤ left) (h1 : left ≤ 1048576) (hn : n ≤ maxLen) : Szd left (szf left n) (n ≤ 1048576) := ⟨by
  by_cases h : szf left n < 0
  · exact .inl h
  · obtain ⟨a, b⟩ := szf_cut h0 h1 hn h
    exact .inr ⟨by omega, by omega, by omega⟩⟩

/-- A law's node whose lists are not long. -/
structure NodeLen' (x : S_laws_Node) : Prop where
  log : x.Log.n ≤ 1048576
  votes : x.Votes.n ≤ 1048576
  next : x.Next.n ≤ 1048576
  mat : x.Match.n ≤ 1048576

theorem sz_Node (fu : Nat) (x : S_laws_Node) (hw : W_laws_Node x) {left : Int} (h0 : 0 ≤ left) (h1 : left ≤ 1048576) : ∃ y, F_laws_szNode fu x left = some y ∧ Szd left y (NodeLen' x) := by
  obtain ⟨-, -, -, -, w1, -, -, w2, w3, w4⟩ := hw
  unfold F_laws_szNode
  simp only [sz_EntryS', sz_Int64S, Option.bind_some]
  rcases (sz_one h0 h1 w1.1).neg with a | ⟨a1, a2, a3⟩
  · exact ⟨-1, by simp [a], ⟨.inl (by omega)⟩⟩
  · simp only [show ¬ szf left x.Log.n < 0 by omega, decide_false, cond_false]
    generalize szf left x.Log.n = l1 at a1 a2
    rcases (sz_one a1 (by omega) w2.1).neg with b | ⟨b1, b2, b3⟩
    · exact ⟨-1, by simp [b], ⟨.inl (by omega)⟩⟩
    · simp only [show ¬ szf l1 x.Votes.n < 0 by omega, decide_false, cond_false]
      generalize szf l1 x.Votes.n = l2 at b1 b2
      rcases (sz_one b1 (by omega) w3.1).neg with c | ⟨c1, c2, c3⟩
      · exact ⟨-1, by simp [c], ⟨.inl (by omega)⟩⟩
      · simp only [show ¬ szf l2 x.Next.n < 0 by omega, decide_false, cond_false]
        generalize szf l2 x.Next.n = l3 at c1 c2
        rcases (sz_one c1 (by omega) w4.1).neg with d | ⟨d1, d2, d3⟩
        · exact ⟨-1, by simp [d], ⟨.inl (by omega)⟩⟩
        · simp only [show ¬ szf l3 x.Match.n < 0 by omega, decide_false, cond_false]
          exact ⟨_, rfl, ⟨.inr ⟨d1, by omega, ⟨a3, b3, c3, d3⟩⟩⟩⟩

def toN (x : S_laws_Node) : S_impl_Node := ⟨x.Id, x.Peers, x.Term, x.Voted, cp toE d_Entry x.Log, x.Role, x.Commit, cp id 0 x.Votes, cp id 0 x.Next, cp id 0 x.Match⟩
theorem toN_len {x : S_laws_Node} (h : NodeLen' x) : NodeLen (toN x) := ⟨h.log, h.votes, h.next, h.mat⟩
theorem e_Int64S {fu : Nat} (hf : 2000000 ≤ fu) (x : Sl Int) (hx : x.n ≤ 1048576) : F_laws_eqInt64S fu x x = some true := by
  unfold F_laws_eqInt64S
  simp only [bne_self_eq_false, cond_false]
  have h := L_scan (α := Unit) (B := fun w0 go0 => F_laws_eqInt64S_B0 fu x x (some false) (some true) w0 go0) (fun i => (i : Int)) x.n (fun _ => none) (fun _ => none) (some true)
    (fun i go hi => by
      unfold F_laws_eqInt64S_B0
      simp [hi, wsucc (show i < 4611686018427387904 by omega)])
    (fun go => by unfold F_laws_eqInt64S_B0; simp) x.n 0 fu (by omega) (by omega)
  rw [scan_all_none x.n _ (fun _ _ => rfl)] at h
  simpa using h
theorem e_Node {fu : Nat} (hf : 2000000 ≤ fu) (x : S_impl_Node) (hx : NodeLen x) : F_laws_eqNode fu x x = some true := by
  unfold F_laws_eqNode
  simp [e_EntryS hf x.Log hx.log, e_Int64S hf x.Votes hx.votes, e_Int64S hf x.Next hx.next, e_Int64S hf x.Match hx.mat]

end Go.Proofs.Ytjdgfkmiaikegaa.Pd
