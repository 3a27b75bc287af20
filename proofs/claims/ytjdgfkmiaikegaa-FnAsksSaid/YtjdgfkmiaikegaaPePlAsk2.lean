/- What a leader is asked: results that tell a node and mails in rows. Conditions: none. -/
import Derived.Test.YtjdgfkmiaikegaaPePlTime
import Derived.Test.YtjdgfkmiaikegaaPePlAsk
namespace Go.Proofs.Ytjdgfkmiaikegaa.Pe
open Go Go.RowKit Go.Proofs Vm
set_option linter.unusedVariables false
set_option linter.unusedSimpArgs false
set_option maxRecDepth 100000
theorem t_agree2 {fu : Nat} (hf : 2000000 ≤ fu) (a p t v r c : Int) (n q1 q2 m n1 n2 n3 n4 : Nat) (f1 : Nat → S_impl_Entry) (f2 f3 f4 : Nat → Int) (hn : n ≤ 1048576) (hm : m ≤ 1048576) (h0 : 0 ≤ c) (h1 : c ≤ n) :
  F_impl_Node_agree_M_3 fu a p t v n r c q1 q2 m n1 f1 n2 f2 n3 f3 n4 f4 = some (a, p, t, v, n, r, agr p t n f1 m f4 c, q1, q2, m, n1, f1, n2, f2, n3, f3, n4, f4) := by
 unfold F_impl_Node_agree_M_3 F_impl_size_impl_Entry
 simp only [Option.bind_some]
 refine L_agr hf p t c n m f1 f4 (fun z => some (a, p, t, v, n, r, z, q1, q2, m, n1, f1, n2, f2, n3, f3, n4, f4)) _ hn h0 h1 (fun i go hi => ?_) (fun go => ?_) rfl
 ·unfold F_impl_Node_agree_M_3_B0
  have hc : (n : Int) - (i : Nat) > c := by omega
  simp only [hc, decide_true, cond_true]
  refine (stepL (ke := (agrAt p t n f1 m f4 i).elim (go ((n : Int) - ((i + 1 : Nat) : Int))) (fun z => some (a, p, t, v, n, r, z, q1, q2, m, n1, f1, n2, f2, n3, f3, n4, f4))) m (fun j => (cnt f4 ((n : Int) - (i : Nat)) j, (j : Int))) (by omega) rfl (fun j go2 hj => ?_) (fun go2 => ?_))
  ·unfold F_impl_Node_agree_M_3_B2
   have hb := cnt_le f4 ((n : Int) - (i : Nat)) j
   have e1 : IntKind.wrap .i64 (cnt f4 ((n : Int) - (i : Nat)) j + 1) = cnt f4 ((n : Int) - (i : Nat)) j + 1 := wrap64 (by omega) (by omega)
   simp only [Int.toNat_natCast, Int.natCast_nonneg, Int.ofNat_lt, hj, decide_true, Bool.and_self, cond_true, Option.bind_some, wsucc (show j < 4611686018427387904 by omega), e1, cnt]
   cases decide (f4 j ≥ (n : Int) - (i : Nat)) <;> rfl
  ·unfold F_impl_Node_agree_M_3_B2 F_impl_Node_isQuorum agrAt
   have e2 : IntKind.wrap .i64 ((n : Int) - (i : Nat) - 1) = ((n - i - 1 : Nat) : Int) := by rw [wrap64 (by omega) (by omega)]; omega
   have e3 : n - i - 1 < n := by omega
   have e4 : ((n : Int) - ((i + 1 : Nat) : Int)) = ((n - i - 1 : Nat) : Int) := by omega
   simp only [Int.lt_irrefl, decide_false, cond_false, Option.bind_some, e2, e4, Int.toNat_natCast, Int.natCast_nonneg, e3, decide_true, Bool.and_self, cond_true]
   cases decide (IntKind.wrap .i64 (2 * cnt f4 ((n : Int) - (i : Nat)) m) > p) <;> simp only [cond_true, cond_false, Option.bind_some, Bool.true_and, Bool.false_and] <;> first
    | rfl
    | (cases ((f1 (n - i - 1)).Term == t) <;> rfl)
 ·unfold F_impl_Node_agree_M_3_B0
  have hc : ¬ ((n : Int) - ((((n : Int) - c).toNat : Nat) : Int) > c) := by omega
  simp only [hc, decide_false, cond_false]
theorem t_specAgree2 {ρ : Type} {fu : Nat} (hf : 2000000 ≤ fu) {a1 a2 a3 a4 a5 a6 a7 a8 a9 a10 a11 : Int} {a12 : Sl S_impl_Entry} {a13 a14 : Int} {a15 a16 a17 : Sl Int} {a18 a19 a20 a21 a22 a23 a24 a25 a26 a27 a28 p t a31 : Int} {n : Nat} {a33 c : Int} {a35 a36 m a38 : Nat} {f : Nat → S_impl_Entry}
  {a40 : Nat} {a41 : Nat → Int} {a42 : Nat} {a43 : Nat → Int} {a44 : Nat} {g : Nat → Int} {k0 : Int → Option ρ} {k1 : Option ρ}
  (hn : n ≤ 1048576) (hm : m ≤ 1048576) (h0 : 0 ≤ c) (h1 : c ≤ n) (hk : k1 = k0 c) :
  L (fun w0 go0 => F_spec_AskNode_U_i0_B0 fu a1 a2 a3 a4 a5 a6 a7 a8 a9 a10 a11 a12 a13 a14 a15 a16 a17 a18 a19 a20 a21 a22 a23 a24 a25 a26 a27 a28 p t a31 n a33 c a35 a36 m a38 f a40 a41 a42 a43 a44 g k0 k1 w0 go0) fu (n : Int) = k0 (agr p t n f m g c) := by
 refine L_agr hf p t c n m f g k0 k1 hn h0 h1 (fun i go hi => ?_) (fun go => ?_) hk
 ·unfold F_spec_AskNode_U_i0_B0
  have hc : (n : Int) - (i : Nat) > c := by omega
  simp only [hc, decide_true, cond_true]
  refine stepL m (fun j => (cnt g ((n : Int) - (i : Nat)) j, (j : Int))) (by omega) rfl (fun j go2 hj => ?_) (fun go2 => ?_)
  ·unfold F_spec_AskNode_U_i0_B2
   have hb := cnt_le g ((n : Int) - (i : Nat)) j
   have e1 : IntKind.wrap .i64 (cnt g ((n : Int) - (i : Nat)) j + 1) = cnt g ((n : Int) - (i : Nat)) j + 1 := wrap64 (by omega) (by omega)
   simp only [Int.toNat_natCast, Int.natCast_nonneg, Int.ofNat_lt, hj, decide_true, Bool.and_self, cond_true, Option.bind_some, wsucc (show j < 4611686018427387904 by omega), e1, cnt]
   cases decide (g j ≥ (n : Int) - (i : Nat)) <;> rfl
  ·unfold F_spec_AskNode_U_i0_B2 agrAt
   have e2 : IntKind.wrap .i64 ((n : Int) - (i : Nat) - 1) = ((n - i - 1 : Nat) : Int) := by rw [wrap64 (by omega) (by omega)]; omega
   have e3 : n - i - 1 < n := by omega
   have e4 : ((n : Int) - ((i + 1 : Nat) : Int)) = ((n - i - 1 : Nat) : Int) := by omega
   simp only [Int.lt_irrefl, decide_false, cond_false, Option.bind_some, e2, e4, Int.toNat_natCast, Int.natCast_nonneg, e3, decide_true, Bool.and_self, cond_true]
   cases decide (IntKind.wrap .i64 (2 * cnt g ((n : Int) - (i : Nat)) m) > p) <;> simp only [cond_true, cond_false, Option.bind_some, Bool.true_and, Bool.false_and] <;> first
    | rfl
    | (cases ((f (n - i - 1)).Term == t) <;> rfl)
 ·unfold F_spec_AskNode_U_i0_B0
  have hc : ¬ ((n : Int) - ((((n : Int) - c).toNat : Nat) : Int) > c) := by omega
  simp only [hc, decide_false, cond_false]
def askT (x : S_impl_Node) (e : S_impl_Entry) : NodeT :=
 bif nodef x != 0 then failN (nodef x) else bif x.Role != 2 then failN 10 else bif entf e != 0 then failN (entf e) else bif e.Term != x.Term then failN 1 else bif decide (40 ≤ x.Log.n) then failN 2 else nodeT 0 (askN x e) 0 (fun _ => dflt .impl_Mail)
theorem s_AskNodeU {fu : Nat} (hf : 2000000 ≤ fu) (x : S_impl_Node) (e : S_impl_Entry) (hx : NodeLen x) : F_spec_AskNode_U fu x e = some (askT x e) := by
 unfold F_spec_AskNode_U askT
 simp only [s_NodeFault0 hf x hx, s_EntryFault, bad_U, Option.bind_some]
 cases h1 : (nodef x != 0) with
 | true => rfl
 | false =>
 cases h2 : (x.Role != 2) with
 | true => rfl
 | false =>
 simp only [cond_false]
 cases h3 : (entf e != 0) with
 | true => rfl
 | false =>
 cases h4 : (e.Term != x.Term) with
 | true => rfl
 | false =>
 simp only [cond_false]
 rw [show decide ((x.Log.n : Int) ≥ 40) = decide (40 ≤ x.Log.n) from decide_eq_decide.2 (by omega)]
 cases h5 : decide (40 ≤ x.Log.n) with
 | true => rfl
 | false =>
 have hR := nodef_right h1
 obtain ⟨i1, i2⟩ := right_lead hR h2
 have hi := hR.id
 have hc := hR.commit
 have hl := logf_len hR.log
 have k1 : x.Log.n + 1 ≤ 9223372036854775807 := by omega
 have k2 : (x.Log.n + 1) * 72 ≤ 140737488355328 := by omega
 have k3 : IntKind.wrap .i64 (((x.Log.n + 1 : Nat) : Int) + 1) = ((x.Log.n + 1 : Nat) : Int) + 1 := wrap64 (by omega) (by omega)
 simp only [c_l8Copy fu x hx, Option.bind_some, fresh, cond_false, k1, k2, hi.1, i1, i2, k3, decide_true, Bool.and_self, cond_true]
 exact t_specAgree2 hf (show x.Log.n + 1 ≤ 1048576 by omega) hx.mat hc.1 (show x.Commit ≤ ((x.Log.n + 1 : Nat) : Int) by omega) rfl
theorem i_AskNodeU {fu : Nat} (hf : 2000000 ≤ fu) (x : S_impl_Node) (e : S_impl_Entry) (hx : NodeLen x) : F_impl_AskNode_U fu x e = some (askT x e) := by
 unfold F_impl_AskNode_U askT
 simp only [i_leadFault hf x hx, i_EntryFault, Option.bind_some]
 cases h1 : (nodef x != 0) with
 | true =>
  have e1 : (nodef x == 0) = false := by rw [bne, Bool.not_eq_true'] at h1; exact h1
  simp only [cond_true, e1, cond_false, h1]
  rfl
 | false =>
 cases h2 : (x.Role != 2) with
 | true => rfl
 | false =>
 simp only [cond_false, show ((0 : Int) == 0) = true from rfl, cond_true]
 cases h3 : (entf e != 0) with
 | true => rfl
 | false =>
 cases h4 : (e.Term != x.Term) with
 | true => rfl
 | false =>
 simp only [cond_false]
 have hR := nodef_right h1
 have hl40 := logf_len hR.log
 rw [show ((x.Log.n : Int) == 40) = decide (40 ≤ x.Log.n) from by rw [Bool.eq_iff_iff, beq_iff_eq, decide_eq_true_eq]; omega]
 cases h5 : decide (40 ≤ x.Log.n) with
 | true => rfl
 | false =>
 obtain ⟨i1, i2⟩ := right_lead hR h2
 have hi := hR.id
 have hc := hR.commit
 have hl := logf_len hR.log
 have k1 : x.Log.n + 1 ≤ 9223372036854775807 := by omega
 have k2 : (x.Log.n + 1) * 72 ≤ 140737488355328 := by omega
 have k3 : IntKind.wrap .i64 (((x.Log.n + 1 : Nat) : Int) + 1) = ((x.Log.n + 1 : Nat) : Int) + 1 := wrap64 (by omega) (by omega)
 simp only [c_copied fu x hx, Option.bind_some, fresh, cond_false, k1, k2, hi.1, i1, i2, k3, decide_true, Bool.and_self, cond_true, F_impl_size_impl_Entry]
 rw [t_agree2 hf _ _ _ _ _ _ _ _ _ _ _ _ _ _ _ _ _ _ (show x.Log.n + 1 ≤ 1048576 by omega) hx.mat hc.1 (show x.Commit ≤ ((x.Log.n + 1 : Nat) : Int) by omega)]
 rfl
end Go.Proofs.Ytjdgfkmiaikegaa.Pe

