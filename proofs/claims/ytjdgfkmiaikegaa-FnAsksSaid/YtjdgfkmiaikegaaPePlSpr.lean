/- The law of what a leader sends. Conditions: none. -/
import Derived.Test.YtjdgfkmiaikegaaPePlSpread
namespace Go.Proofs.Ytjdgfkmiaikegaa.Pe
open Go Go.RowKit Go.Proofs Vm
set_option linter.unusedVariables false
set_option linter.unusedSimpArgs false
set_option maxRecDepth 100000
def idA (x : S_impl_Node) (i : Nat) : Int := x.Next.f i - 1
def upA (x : S_impl_Node) (i : Nat) : Int := bif decide ((x.Log.n : Int) < idA x i + 4) then (x.Log.n : Int) else idA x i + 4
def mailA (x : S_impl_Node) (i : Nat) : S_impl_Mail := ⟨3, x.Id, i, x.Term, idA x i, bif decide (idA x i > 0) then (x.Log.f ((idA x i).toNat - 1)).Term else 0, x.Commit, false,
 ⟨none, (upA x i).toNat - (idA x i).toNat, fun j => x.Log.f ((idA x i).toNat + j)⟩⟩
def nA (x : S_impl_Node) : Nat → Nat
 | 0 => 0
 | i + 1 => bif ((i : Int) != x.Id) then nA x i + 1 else nA x i
def fA (x : S_impl_Node) (M : Nat → S_impl_Mail) : Nat → Nat → S_impl_Mail
 | 0 => fun _ => dflt .impl_Mail
 | i + 1 => bif ((i : Int) != x.Id) then (fun j => if j < nA x i then fA x M i j else M i) else fA x M i
theorem nA_le (x : S_impl_Node) : ∀ i, nA x i ≤ i
 | 0 => Nat.le_refl _
 | i + 1 => by
  have := nA_le x i
  unfold nA
  cases ((i : Int) != x.Id) <;> simp only [cond_true, cond_false] <;> omega
def freshN (x : S_impl_Node) : S_impl_Node := ⟨x.Id, x.Peers, x.Term, x.Voted, fresh x.Log, x.Role, x.Commit, fresh x.Votes, fresh x.Next, fresh x.Match⟩
def spreadR (x : S_impl_Node) : NodeT :=
 bif nodef x != 0 then failN (nodef x) else bif x.Role != 2 then failN 10 else nodeT 0 (freshN x) (nA x x.Peers.toNat) (fA x (mailA x) x.Peers.toNat)
theorem bad_U (fu : Nat) (c : Int) : F_spec_l8Bad_U fu c = some (failN c) := rfl
structure At (x : S_impl_Node) (i : Nat) : Prop where
 lt : i < x.Next.n
 lo : 0 ≤ idA x i
 hi : idA x i ≤ (x.Log.n : Int)
theorem right_at {x : S_impl_Node} (h : Right x) (hr : (x.Role != 2) = false) {i : Nat} (hi : i < x.Peers.toNat) : At x i := by
 have e : x.Role = 2 := by simpa using hr
 have hw : want x = x.Peers := by unfold want; rw [e]; rfl
 have hn := h.next
 rw [hw] at hn
 have hp := h.peers
 have hlt : i < x.Next.n := by omega
 have hf := h.fits
 simp only [Bool.and_eq_true] at hf
 have := rng_iff.1 (allb_iff.1 hf.1 i hlt)
 unfold nexts at hf
 exact ⟨hlt, by unfold idA; omega, by unfold idA; omega⟩
theorem i_SpreadNode {fu : Nat} (hf : 2000000 ≤ fu) (x : S_impl_Node) (hx : NodeLen x) : F_impl_SpreadNode_U fu x = some (spreadR x) := by
 unfold F_impl_SpreadNode_U spreadR
 simp only [i_leadFault hf x hx, Option.bind_some]
 cases h1 : (nodef x != 0) with
 | true => simp only [cond_true, h1]; rfl
 | false =>
 cases h2 : (x.Role != 2) with
 | true => rfl
 | false =>
 have hR := nodef_right h1
 have hp := hR.peers
 have hn := hx.next
 have hlog := hx.log
 simp only [cond_false, show ((0 : Int) != 0) = false from rfl, c_copied fu x hx, Option.bind_some]
 refine stepL x.Peers.toNat (fun i => ((i : Int), nA x i, nA x i, nA x i, fA x (mailA x) i)) (by omega) rfl (fun i go hi => ?_) (fun go => ?_)
 ·obtain ⟨h3, h4, h5⟩ := right_at hR h2 hi
  have hle := nA_le x i
  unfold F_impl_SpreadNode_U_i0_B0
  have hlt : (i : Int) < x.Peers := by omega
  have e1 : IntKind.wrap .i64 (x.Next.f i - 1) = idA x i := by unfold idA at *; rw [wrap64 (by omega) (by omega)]
  have e2 : IntKind.wrap .i64 (idA x i + 4) = idA x i + 4 := wrap64 (by omega) (by omega)
  have e3 : minInt (idA x i + 4) (x.Log.n : Int) = upA x i := rfl
  have u1 : idA x i ≤ upA x i ∧ (upA x i).toNat ≤ x.Log.n ∧ (upA x i).toNat - (idA x i).toNat ≤ 1048576 := by
   unfold upA
   cases h : decide ((x.Log.n : Int) < idA x i + 4) with
   | true =>
    have := of_decide_eq_true h
    simp only [cond_true]; omega
   | false =>
    have := of_decide_eq_false h
    simp only [cond_false]; omega
  have u2 : (idA x i).toNat ≤ x.Log.n := by omega
  have hlast : (lastE (⟨x.Log.z, (idA x i).toNat - 0, fun j => x.Log.f (0 + j)⟩ : Sl S_impl_Entry)).Term = (mailA x i).Last := by
   unfold lastE mailA
   simp only [Nat.sub_zero, Nat.zero_add]
   by_cases h0 : (idA x i).toNat = 0
   ·have : ¬ idA x i > 0 := by omega
    simp only [h0, if_true, this, decide_false, cond_false]
    rfl
   ·have : idA x i > 0 := by omega
    simp only [h0, if_false, this, decide_true, cond_true]
  have k1 : nA x i + 1 ≤ 9223372036854775807 := by omega
  have k2 : (nA x i + 1) * 88 ≤ 140737488355328 := by omega
  simp only [hlt, decide_true, cond_true, fresh, Int.toNat_natCast, Int.natCast_nonneg, h3, h4, e1, e2, u2, Bool.and_self, Option.bind_some, wsucc (show i < 4611686018427387904 by omega),
   i_last fu ⟨x.Log.z, (idA x i).toNat - 0, fun j => x.Log.f (0 + j)⟩ (show (idA x i).toNat - 0 ≤ 1048576 by omega), F_impl_size_impl_Entry, e3, u1.1, u1.2.1,
   c_Clone fu ⟨x.Log.z, (upA x i).toNat - (idA x i).toNat, fun j => x.Log.f ((idA x i).toNat + j)⟩ u1.2.2, hlast, nA, fA, k1, k2, Nat.le_refl]
  cases ((i : Int) != x.Id) <;> rfl
 ·unfold F_impl_SpreadNode_U_i0_B0
  have hlt : ¬ ((x.Peers.toNat : Nat) : Int) < x.Peers := by omega
  simp only [hlt, decide_false, cond_false, Nat.le_refl, decide_true, Bool.and_self, cond_true]
  rfl
end Go.Proofs.Ytjdgfkmiaikegaa.Pe

