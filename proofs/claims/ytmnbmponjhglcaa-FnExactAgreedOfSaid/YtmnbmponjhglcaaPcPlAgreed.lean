/- Plain law of AgreedOf. Conditions: none. -/
import Derived.Test.YtmnbmponjhglcaaPcPlDeep
namespace Go.Proofs.Ytmnbmponjhglcaa.Pc
open Go Go.RowKit Go.Proofs Vm
set_option linter.unusedVariables false
set_option linter.unusedSimpArgs false
set_option maxRecDepth 100000

/-- The sealed entries, one behind another. -/
def sealsF (x : S_impl_Cluster) : Nat → Nat → S_impl_Entry
  | 0 => fun _ => dflt .impl_Entry
  | i + 1 => fun k => if k < i then sealsF x i k else ((fun i' => [(x.Seals.f i).Entry].getD i' (dflt .impl_Entry)) (k - i))
theorem i_sealedH {fu : Nat} (hf : 2000000 ≤ fu) (x : S_impl_Cluster) (hx : x.Seals.n ≤ 1048576) : F_impl_Cluster_sealed_H fu x = some ⟨none, x.Seals.n, sealsF x x.Seals.n⟩ := by
  unfold F_impl_Cluster_sealed_H
  refine stepL x.Seals.n (fun i => (i, (i : Int), i, sealsF x i)) (by omega) rfl (fun i go hi => ?_) (fun go => ?_)
  · unfold F_impl_Cluster_sealed_H_B0
    have h1 : i + 1 ≤ 9223372036854775807 := by omega
    have h2 : (i + 1) * 72 ≤ 140737488355328 := by omega
    simp only [Int.toNat_natCast, Int.natCast_nonneg, Int.ofNat_lt, hi, h1, h2, decide_true, Bool.and_self, cond_true, Option.bind_some, wsucc (show i < 4611686018427387904 by omega)]
    rfl
  · unfold F_impl_Cluster_sealed_H_B0
    simp only [Int.lt_irrefl, decide_false, cond_false]
theorem s_sealedH {fu : Nat} (hf : 2000000 ≤ fu) (x : S_impl_Cluster) (hx : x.Seals.n ≤ 1048576) : F_spec_l10Agreed_H fu x = some ⟨none, x.Seals.n, sealsF x x.Seals.n⟩ := by
  unfold F_spec_l10Agreed_H
  refine stepL x.Seals.n (fun i => (i, (i : Int), i, sealsF x i)) (by omega) rfl (fun i go hi => ?_) (fun go => ?_)
  · unfold F_spec_l10Agreed_H_B0
    have h1 : i + 1 ≤ 9223372036854775807 := by omega
    have h2 : (i + 1) * 72 ≤ 140737488355328 := by omega
    simp only [Int.toNat_natCast, Int.natCast_nonneg, Int.ofNat_lt, hi, h1, h2, decide_true, Bool.and_self, cond_true, Option.bind_some, wsucc (show i < 4611686018427387904 by omega)]
    rfl
  · unfold F_spec_l10Agreed_H_B0
    simp only [Int.lt_irrefl, decide_false, cond_false]

def agreed (x : S_impl_Cluster) : S_impl_EntriesResult := bif clusf x != 0 then ⟨clusf x, ⟨some true, 0, fun _ => dflt .impl_Entry⟩⟩ else ⟨0, ⟨none, x.Seals.n, sealsF x x.Seals.n⟩⟩
theorem s_AgreedOf {fu : Nat} (hf : 2000000 ≤ fu) (x : S_impl_Cluster) (hx : CluLen x) : F_spec_AgreedOf_H fu x = some (agreed x) := by
  unfold F_spec_AgreedOf_H agreed
  simp only [s_ClusterFault0 hf x hx, s_sealedH hf x hx.seals, Option.bind_some]
  cases (clusf x != 0) <;> rfl
theorem i_AgreedOf {fu : Nat} (hf : 2000000 ≤ fu) (x : S_impl_Cluster) (hx : CluLen x) : F_impl_AgreedOf_H fu x = some (agreed x) := by
  unfold F_impl_AgreedOf_H agreed
  simp only [i_ClusterFault hf x hx, i_sealedH hf x hx.seals, Option.bind_some]
  cases (clusf x != 0) <;> rfl
theorem agreed_len {x : S_impl_Cluster} (hx : CluLen x) : (agreed x).Entries.n ≤ 1048576 := by
  unfold agreed
  cases (clusf x != 0)
  · exact hx.seals
  · exact Nat.zero_le _
theorem e_EntriesR {fu : Nat} (hf : 2000000 ≤ fu) (x : S_impl_EntriesResult) (hx : x.Entries.n ≤ 1048576) : F_laws_eqEntriesResult fu ⟨x.Code, ⟨none, x.Entries.n, x.Entries.f⟩⟩ ⟨x.Code, ⟨none, x.Entries.n, x.Entries.f⟩⟩ = some true := by
  unfold F_laws_eqEntriesResult
  simp [e_EntryS hf (⟨none, x.Entries.n, x.Entries.f⟩ : Sl S_impl_Entry) hx]

theorem plain_FnExactAgreedOf (x : S_laws_Cluster) (w : W_laws_Cluster x) : F_laws_FnExactAgreedOf plainFuel x = some true := by
  unfold F_laws_FnExactAgreedOf
  obtain ⟨y, h1, h2⟩ := sz_Cluster pf x w
  simp only [h1, Option.bind_some]
  rcases h2 with h | ⟨h, hx⟩
  · simp [h]
  · have hl := toC_len hx
    have hC : (⟨⟨none, x.Nodes.n, (toC x).Nodes.f⟩, ⟨none, x.Mails.n, (toC x).Mails.f⟩, ⟨none, x.Wins.n, (toC x).Wins.f⟩, ⟨none, x.Seals.n, (toC x).Seals.f⟩⟩ : S_impl_Cluster) = toC x := rfl
    simp only [show ¬ y < 0 by omega, decide_false, cond_false, tu_Cluster pf x hx, Option.bind_some, hC, s_AgreedOf pf _ hl, i_AgreedOf pf _ hl, e_Cluster pf _ hl, e_EntriesR pf _ (agreed_len hl), Bool.not_true]
    obtain ⟨m, hm, hm0⟩ := mu_Cluster pf x hx
    have hR := agreed_len hl
    have eR := e_EntriesR pf _ hR
    generalize agreed (toC x) = R at hR eR
    have m3 := m_EntryS pf R.Entries.n 1 R.Entries.n R.Entries.f (by omega) (by omega) (by omega)
    have g3 := h_EntryS pf (⟨none, R.Entries.n, marks mkE 9 1 R.Entries.n R.Entries.f⟩) 1 (by show R.Entries.n ≤ _; omega) (by omega) (by omega) (fun i hi => marks_at hi)
    have n3 : ¬ (1 + 9 * (R.Entries.n : Int) < 0) := by omega
    simp only [hm, Option.bind_some]
    unfold F_laws_markEntriesResult_L F_laws_heldEntriesResult
    simp only [show ¬ m.1 < 0 by omega, cond_true, cond_false, Option.bind_some, m3, g3, n3, decide_false, bne_self_eq_false, Bool.not_true, eR]

end Go.Proofs.Ytmnbmponjhglcaa.Pc
