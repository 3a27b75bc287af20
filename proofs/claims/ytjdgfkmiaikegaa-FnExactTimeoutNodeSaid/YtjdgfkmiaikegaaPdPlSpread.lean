/- Plain laws of mails in rows: marks and what holds them; results that tell a node and mails. Conditions: none. -/
import Derived.Test.YtjdgfkmiaikegaaPdPlAgree
namespace Go.Proofs.Ytjdgfkmiaikegaa.Pd
open Go Go.RowKit Go.Proofs Vm
set_option linter.unusedVariables false
set_option linter.unusedSimpArgs false
set_option maxRecDepth 100000

theorem xU_EntryS {fu : Nat} (hf : 2000000 ≤ fu) (n : Nat) (k : Int) (rn : Nat) (f : Nat → S_impl_Entry) (hn : n ≤ 1048576) (h0 : 0 ≤ k) (h1 : k ≤ 1000000000000) : F_laws_markEntryS_U fu n k rn f = some (k + 9 * n, rn, marks mkE 9 k n f) := by
  unfold F_laws_markEntryS_U
  refine stepL n (fun i => (k + 9 * i, (i : Int), marks mkE 9 k i f)) (by omega) ?_ (fun i go hi => ?_) (fun go => ?_)
  · have : marks mkE 9 k 0 f = f := by funext j; simp [marks]
    simp [this]
  · unfold F_laws_markEntryS_U_B0
    simp only [Int.toNat_natCast, Int.natCast_nonneg, Int.ofNat_lt, hi, decide_true, Bool.and_self, cond_true, Option.bind_some, wsucc (show i < 4611686018427387904 by omega)]
    simp (disch := omega) only [Vm.wrap64]
    have hm := marks_succ mkE 9 k i f
    have hu : upd_impl_Entry_8_1 (upd_impl_Entry_7_1 (upd_impl_Entry_6_1 (upd_impl_Entry_5_1 (upd_impl_Entry_4_1 (upd_impl_Entry_3_1 (upd_impl_Entry_2_1 (upd_impl_Entry_1_1 (upd_impl_Entry_0_1 (marks mkE 9 k i f) i (k + 9 * i)) i (k + 9 * i + 1)) i (k + 9 * i + 1 + 1)) i (k + 9 * i + 1 + 1 + 1)) i (k + 9 * i + 1 + 1 + 1 + 1)) i (k + 9 * i + 1 + 1 + 1 + 1 + 1)) i (k + 9 * i + 1 + 1 + 1 + 1 + 1 + 1)) i (k + 9 * i + 1 + 1 + 1 + 1 + 1 + 1 + 1)) i (k + 9 * i + 1 + 1 + 1 + 1 + 1 + 1 + 1 + 1) = marks mkE 9 k (i + 1) f := by
      rw [← hm]
      funext j
      by_cases hj : j = i
      · subst hj
        simp only [upd_impl_Entry_0_1, upd_impl_Entry_1_1, upd_impl_Entry_2_1, upd_impl_Entry_3_1, upd_impl_Entry_4_1, upd_impl_Entry_5_1, upd_impl_Entry_6_1, upd_impl_Entry_7_1, upd_impl_Entry_8_1, if_pos, mkE]
      · simp only [upd_impl_Entry_0_1, upd_impl_Entry_1_1, upd_impl_Entry_2_1, upd_impl_Entry_3_1, upd_impl_Entry_4_1, upd_impl_Entry_5_1, upd_impl_Entry_6_1, upd_impl_Entry_7_1, upd_impl_Entry_8_1, if_neg hj]
    rw [hu, show k + 9 * (i : Int) + 1 + 1 + 1 + 1 + 1 + 1 + 1 + 1 + 1 = k + 9 * ((i + 1 : Nat) : Int) by omega]
  · unfold F_laws_markEntryS_U_B0
    simp
theorem xU_Int64S {fu : Nat} (hf : 2000000 ≤ fu) (n : Nat) (k : Int) (rn : Nat) (f : Nat → Int) (hn : n ≤ 1048576) (h0 : 0 ≤ k) (h1 : k ≤ 1000000000000) : F_laws_markInt64S_U fu n k rn f = some (k + 1 * n, rn, marks id 1 k n f) := by
  unfold F_laws_markInt64S_U
  refine stepL n (fun i => (k + 1 * i, (i : Int), marks id 1 k i f)) (by omega) ?_ (fun i go hi => ?_) (fun go => ?_)
  · have : marks id 1 k 0 f = f := by funext j; simp [marks]
    simp [this]
  · unfold F_laws_markInt64S_U_B0
    simp only [Int.toNat_natCast, Int.natCast_nonneg, Int.ofNat_lt, hi, decide_true, Bool.and_self, cond_true, Option.bind_some, wsucc (show i < 4611686018427387904 by omega)]
    simp (disch := omega) only [Vm.wrap64]
    have e := marks_succ id 1 k i f
    rw [← e, show k + 1 * (i : Int) + 1 = k + 1 * ((i + 1 : Nat) : Int) by omega]
    rfl
  · unfold F_laws_markInt64S_U_B0
    simp

/-! ### Mails: each as long as its entries -/
def MailsL (n : Nat) (f : Nat → S_impl_Mail) : Prop := ∀ m, m < n → (f m).Entries.n ≤ 1048576
def kM (f : Nat → S_impl_Mail) (k : Int) : Nat → Int
  | 0 => k
  | i + 1 => kM f k i + 1 + 1 + 1 + 1 + 1 + 1 + 1 + 1 + 9 * ((f i).Entries.n : Int)
def mkM (m : S_impl_Mail) (k : Int) : S_impl_Mail := ⟨k, k + 1, k + 1 + 1, k + 1 + 1 + 1, k + 1 + 1 + 1 + 1, k + 1 + 1 + 1 + 1 + 1, k + 1 + 1 + 1 + 1 + 1 + 1, Int.tmod (k + 1 + 1 + 1 + 1 + 1 + 1 + 1) 3 == 0,
  ⟨none, m.Entries.n, marks mkE 9 (k + 1 + 1 + 1 + 1 + 1 + 1 + 1 + 1) m.Entries.n m.Entries.f⟩⟩
def gM (f : Nat → S_impl_Mail) (k : Int) (i : Nat) : Nat → S_impl_Mail := fun j => if j < i then mkM (f j) (kM f k j) else f j
theorem kM_bound {n : Nat} {f : Nat → S_impl_Mail} {k : Int} (hI : MailsL n f) : ∀ i, i ≤ n → k ≤ kM f k i ∧ kM f k i ≤ k + 10000000 * i
  | 0, _ => ⟨Int.le_refl _, by simp [kM]⟩
  | i + 1, h => by
    obtain ⟨a, b⟩ := kM_bound (k := k) hI i (by omega)
    have := hI i (by omega)
    unfold kM
    constructor <;> omega
theorem gM_succ (f : Nat → S_impl_Mail) (k : Int) (i : Nat) (b : Bool) (hb : b = (Int.tmod (kM f k i + 1 + 1 + 1 + 1 + 1 + 1 + 1) 3 == 0)) :
    upd_impl_Mail_8_1 (upd_impl_Mail_7_1 (upd_impl_Mail_6_1 (upd_impl_Mail_5_1 (upd_impl_Mail_4_1 (upd_impl_Mail_3_1 (upd_impl_Mail_2_1 (upd_impl_Mail_1_1 (upd_impl_Mail_0_1 (gM f k i) i (kM f k i)) i (kM f k i + 1)) i (kM f k i + 1 + 1)) i (kM f k i + 1 + 1 + 1)) i (kM f k i + 1 + 1 + 1 + 1)) i (kM f k i + 1 + 1 + 1 + 1 + 1)) i (kM f k i + 1 + 1 + 1 + 1 + 1 + 1)) i b) i ⟨none, (f i).Entries.n, marks mkE 9 (kM f k i + 1 + 1 + 1 + 1 + 1 + 1 + 1 + 1) (f i).Entries.n (f i).Entries.f⟩ = gM f k (i + 1) := by
  subst hb
  funext j
  simp only [upd_impl_Mail_0_1, upd_impl_Mail_1_1, upd_impl_Mail_2_1, upd_impl_Mail_3_1, upd_impl_Mail_4_1, upd_impl_Mail_5_1, upd_impl_Mail_6_1, upd_impl_Mail_7_1, upd_impl_Mail_8_1]
  by_cases hj : j = i
  · subst hj
    have h1 : ¬ j < j := by omega
    have h2 : j < j + 1 := by omega
    simp only [gM, h1, h2, if_true, if_false, mkM]
  · by_cases h2 : j < i
    · have h3 : j < i + 1 := by omega
      simp only [gM, hj, h2, h3, if_true, if_false]
    · have h3 : ¬ j < i + 1 := by omega
      simp only [gM, hj, h2, h3, if_false]
theorem xU_MailS {fu : Nat} (hf : 2000000 ≤ fu) (n : Nat) (k : Int) (f : Nat → S_impl_Mail) (hn : n ≤ 64) (h0 : 0 ≤ k) (h1 : k ≤ 100000000) (hI : MailsL n f) : F_laws_markMailS_U fu n k n n f = some (kM f k n, n, n, gM f k n) := by
  unfold F_laws_markMailS_U
  refine stepL n (fun i => (kM f k i, (i : Int), gM f k i)) (by omega) ?_ (fun i go hi => ?_) (fun go => ?_)
  · have : gM f k 0 = f := by funext j; simp [gM]
    simp [this, kM]
  · obtain ⟨b0, b1⟩ := kM_bound (k := k) hI i (by omega)
    have hl := hI i hi
    have hg : gM f k i i = f i := by simp [gM]
    unfold F_laws_markMailS_U_B0
    simp only [Int.toNat_natCast, Int.natCast_nonneg, Int.ofNat_lt, hi, decide_true, Bool.and_self, Bool.and_true, cond_true, Option.bind_some, wsucc (show i < 4611686018427387904 by omega)]
    simp (disch := omega) only [Vm.wrap64]
    have e0 : ∀ b, ((upd_impl_Mail_7_1 (upd_impl_Mail_6_1 (upd_impl_Mail_5_1 (upd_impl_Mail_4_1 (upd_impl_Mail_3_1 (upd_impl_Mail_2_1 (upd_impl_Mail_1_1 (upd_impl_Mail_0_1 (gM f k i) i (kM f k i)) i (kM f k i + 1)) i (kM f k i + 1 + 1)) i (kM f k i + 1 + 1 + 1)) i (kM f k i + 1 + 1 + 1 + 1)) i (kM f k i + 1 + 1 + 1 + 1 + 1)) i (kM f k i + 1 + 1 + 1 + 1 + 1 + 1)) i b) i).Entries = (f i).Entries := fun b => by
      simp only [upd_impl_Mail_0_1, upd_impl_Mail_1_1, upd_impl_Mail_2_1, upd_impl_Mail_3_1, upd_impl_Mail_4_1, upd_impl_Mail_5_1, upd_impl_Mail_6_1, upd_impl_Mail_7_1, if_true, hg]
    simp only [e0, xU_EntryS hf _ (kM f k i + 1 + 1 + 1 + 1 + 1 + 1 + 1 + 1) _ _ hl (by omega) (by omega), Option.bind_some]
    rw [gM_succ f k i _ rfl]
    rfl
  · unfold F_laws_markMailS_U_B0
    simp only [Int.lt_irrefl, decide_false, cond_false]
theorem yU_MailS {fu : Nat} (hf : 2000000 ≤ fu) (n : Nat) (k : Int) (f : Nat → S_impl_Mail) (hn : n ≤ 64) (h0 : 0 ≤ k) (h1 : k ≤ 100000000) (hI : MailsL n f) (z : Option Bool) : F_laws_heldMailS fu ⟨z, n, gM f k n⟩ k = some (kM f k n) := by
  unfold F_laws_heldMailS
  refine stepL n (fun i => (kM f k i, (i : Int))) (by omega) rfl (fun i go hi => ?_) (fun go => ?_)
  · obtain ⟨b0, b1⟩ := kM_bound (k := k) hI i (by omega)
    have hl := hI i hi
    have hg : gM f k n i = mkM (f i) (kM f k i) := by simp [gM, hi]
    unfold F_laws_heldMailS_B0
    simp only [Int.toNat_natCast, Int.natCast_nonneg, Int.ofNat_lt, hi, decide_true, Bool.and_self, cond_true, Option.bind_some, wsucc (show i < 4611686018427387904 by omega), hg, mkM]
    simp (disch := omega) only [Vm.wrap64]
    simp only [bne_self_eq_false, beq_self_eq_true, Bool.not_true, cond_false]
    rw [h_EntryS hf _ _ (by exact hl) (by omega) (by omega) (fun j hj => marks_at hj)]
    simp only [Option.bind_some]
    rw [show decide (kM f k i + 1 + 1 + 1 + 1 + 1 + 1 + 1 + 1 + 9 * (((f i).Entries.n : Nat) : Int) < 0) = false from decide_eq_false (by omega)]
    rfl
  · unfold F_laws_heldMailS_B0
    simp only [Int.lt_irrefl, decide_false, cond_false]

/-! ### Results: a node and mails -/
abbrev NodeT : Type := Int × Int × Int × Int × Int × Nat × Int × Int × Nat × Nat × Nat × Nat × Nat × (Nat → S_impl_Entry) × Nat × (Nat → Int) × Nat × (Nat → Int) × Nat × (Nat → Int) × Nat × (Nat → S_impl_Mail)
def nodeT (c : Int) (x : S_impl_Node) (mn : Nat) (mf : Nat → S_impl_Mail) : NodeT := (c, x.Id, x.Peers, x.Term, x.Voted, x.Log.n, x.Role, x.Commit, x.Votes.n, x.Next.n, x.Match.n, mn, x.Log.n, x.Log.f, x.Votes.n, x.Votes.f, x.Next.n, x.Next.f, x.Match.n, x.Match.f, mn, mf)
def noN : S_impl_Node := ⟨0, 0, 0, 0, ⟨none, 0, fun _ => dflt .impl_Entry⟩, 0, 0, ⟨none, 0, fun _ => dflt .i64⟩, ⟨none, 0, fun _ => dflt .i64⟩, ⟨none, 0, fun _ => dflt .i64⟩⟩
def failN (c : Int) : NodeT := nodeT c noN 0 (fun _ => dflt .impl_Mail)
theorem noN_len : NodeLen noN := ⟨Nat.zero_le _, Nat.zero_le _, Nat.zero_le _, Nat.zero_le _⟩

theorem xy_NodeResult {fu : Nat} (hf : 2000000 ≤ fu) (code a b c d e g : Int) (n1 n2 n3 n4 mn : Nat) (f1 : Nat → S_impl_Entry) (f2 f3 f4 : Nat → Int) (mf : Nat → S_impl_Mail) (h1 : n1 ≤ 1048576) (h2 : n2 ≤ 1048576) (h3 : n3 ≤ 1048576) (h4 : n4 ≤ 1048576) (hm : mn ≤ 64) (hI : MailsL mn mf) :
    ∃ k g1 g2 g3 g4 gm, F_laws_markNodeResult_U fu code a b c d n1 e g n2 n3 n4 mn 1 n1 f1 n2 f2 n3 f3 n4 f4 mn mn mf = some (k, n1, g1, n2, g2, n3, g3, n4, g4, mn, mn, gm) ∧ ¬ k < 0 ∧
      F_laws_heldNodeResult fu ⟨code, ⟨a, b, c, d, ⟨none, n1, g1⟩, e, g, ⟨none, n2, g2⟩, ⟨none, n3, g3⟩, ⟨none, n4, g4⟩⟩, ⟨none, mn, gm⟩⟩ 1 = some k := by
  have hk : markEnd n1 n2 n3 n4 ≤ 100000000 ∧ 0 ≤ markEnd n1 n2 n3 n4 := by unfold markEnd; omega
  obtain ⟨b0, b1⟩ := kM_bound (k := markEnd n1 n2 n3 n4) hI mn (Nat.le_refl _)
  refine ⟨kM mf (markEnd n1 n2 n3 n4) mn, marks mkE 9 1 n1 f1, marks id 1 (1 + 9 * (n1 : Int)) n2 f2, marks id 1 (1 + 9 * (n1 : Int) + 1 * (n2 : Int)) n3 f3, marks id 1 (1 + 9 * (n1 : Int) + 1 * (n2 : Int) + 1 * (n3 : Int)) n4 f4, gM mf (markEnd n1 n2 n3 n4) mn, ?_, by omega, ?_⟩
  · unfold F_laws_markNodeResult_U F_laws_markNode_U
    simp only [xU_EntryS hf n1 1 n1 f1 h1 (by omega) (by omega), xU_Int64S hf n2 (1 + 9 * (n1 : Int)) n2 f2 h2 (by omega) (by omega), xU_Int64S hf n3 (1 + 9 * (n1 : Int) + 1 * (n2 : Int)) n3 f3 h3 (by omega) (by omega),
      xU_Int64S hf n4 (1 + 9 * (n1 : Int) + 1 * (n2 : Int) + 1 * (n3 : Int)) n4 f4 h4 (by omega) (by omega), Option.bind_some]
    have := xU_MailS hf mn (markEnd n1 n2 n3 n4) mf hm hk.2 hk.1 hI
    unfold markEnd at this ⊢
    rw [this]
    rfl
  · unfold F_laws_heldNodeResult
    simp only [h_Node hf a b c d e g n1 n2 n3 n4 f1 f2 f3 f4 h1 h2 h3 h4, yU_MailS hf mn (markEnd n1 n2 n3 n4) mf hm hk.2 hk.1 hI none, Option.bind_some]
    have q1 : ¬ (markEnd n1 n2 n3 n4 < 0) := by omega
    have q2 : ¬ (kM mf (markEnd n1 n2 n3 n4) mn < 0) := by omega
    simp only [q1, q2, decide_false, cond_false]

theorem eS_Mail {fu : Nat} (hf : 2000000 ≤ fu) (x : S_impl_Mail) (hx : x.Entries.n ≤ 1048576) : F_laws_eqMail fu x x = some true := by
  unfold F_laws_eqMail
  simp [e_EntryS hf x.Entries hx]
theorem eS_MailS {fu : Nat} (hf : 2000000 ≤ fu) (x : Sl S_impl_Mail) (hx : x.n ≤ 64) (hI : MailsL x.n x.f) : F_laws_eqMailS fu x x = some true := by
  unfold F_laws_eqMailS
  simp only [bne_self_eq_false, cond_false]
  refine stepL x.n (fun i => (i : Int)) (by omega) rfl (fun i go hi => ?_) (fun go => ?_)
  · unfold F_laws_eqMailS_B0
    simp [hi, wsucc (show i < 4611686018427387904 by omega), eS_Mail hf (x.f i) (hI i hi)]
  · unfold F_laws_eqMailS_B0; simp
theorem eS_NodeResult {fu : Nat} (hf : 2000000 ≤ fu) (x : S_impl_NodeResult) (hx : NodeLen x.Node) (hs : x.Send.n ≤ 64) (hI : MailsL x.Send.n x.Send.f) : F_laws_eqNodeResult fu x x = some true := by
  unfold F_laws_eqNodeResult
  simp [e_Node hf x.Node hx, eS_MailS hf x.Send hs hI]

end Go.Proofs.Ytjdgfkmiaikegaa.Pd
