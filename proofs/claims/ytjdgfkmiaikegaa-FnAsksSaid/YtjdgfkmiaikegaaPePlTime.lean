/- The law of a node whose time is out. Conditions: none. -/
import Derived.Test.YtjdgfkmiaikegaaPePlSpr
namespace Go.Proofs.Ytjdgfkmiaikegaa.Pe
open Go Go.RowKit Go.Proofs Vm
set_option linter.unusedVariables false
set_option linter.unusedSimpArgs false
set_option maxRecDepth 100000
theorem L_agr {ρ : Type} {B : Int → (Int → Option ρ) → Option ρ} {fu : Nat} (hf : 2000000 ≤ fu) (p t c : Int) (n m : Nat) (f : Nat → S_impl_Entry) (g : Nat → Int) (kr : Int → Option ρ) (ke : Option ρ) (hn : n ≤ 1048576) (h0 : 0 ≤ c) (h1 : c ≤ n)
  (hs : ∀ i go, i < ((n : Int) - c).toNat → B ((n : Int) - (i : Nat)) go = (agrAt p t n f m g i).elim (go ((n : Int) - ((i + 1 : Nat) : Int))) kr)
  (he : ∀ go, B ((n : Int) - ((((n : Int) - c).toNat : Nat) : Int)) go = ke) (hk : ke = kr c) : L B fu (n : Int) = kr (agr p t n f m g c) := by
 have key := L_scanE (B := B) (fun i => (n : Int) - (i : Nat)) ((n : Int) - c).toNat (agrAt p t n f m g) kr ke (fun i go hi => by rw [hs i go hi]; cases agrAt p t n f m g i <;> rfl) he ((n : Int) - c).toNat 0 fu (by omega) (by omega)
 have e0 : (n : Int) - ((0 : Nat) : Int) = (n : Int) := by omega
 rw [e0] at key
 rw [key]
 unfold agr
 cases scan (agrAt p t n f m g) ((n : Int) - c).toNat 0
 ·exact hk
 ·rfl
theorem t_agree {fu : Nat} (hf : 2000000 ≤ fu) (a p t v r c : Int) (n q1 m n1 n3 n4 : Nat) (f1 : Nat → S_impl_Entry) (f3 f4 : Nat → Int) (hn : n ≤ 1048576) (hm : m ≤ 1048576) (h0 : 0 ≤ c) (h1 : c ≤ n) :
  F_impl_Node_agree_M fu a p t v n r c q1 m n1 f1 n3 f3 n4 f4 = some (a, p, t, v, n, r, agr p t n f1 m f4 c, q1, m, n1, f1, n3, f3, n4, f4) := by
 unfold F_impl_Node_agree_M F_impl_size_impl_Entry
 simp only [Option.bind_some]
 refine L_agr hf p t c n m f1 f4 (fun z => some (a, p, t, v, n, r, z, q1, m, n1, f1, n3, f3, n4, f4)) _ hn h0 h1 (fun i go hi => ?_) (fun go => ?_) rfl
 ·unfold F_impl_Node_agree_M_B0
  have hc : (n : Int) - (i : Nat) > c := by omega
  simp only [hc, decide_true, cond_true]
  refine (stepL (ke := (agrAt p t n f1 m f4 i).elim (go ((n : Int) - ((i + 1 : Nat) : Int))) (fun z => some (a, p, t, v, n, r, z, q1, m, n1, f1, n3, f3, n4, f4))) m (fun j => (cnt f4 ((n : Int) - (i : Nat)) j, (j : Int))) (by omega) rfl (fun j go2 hj => ?_) (fun go2 => ?_))
  ·unfold F_impl_Node_agree_M_B2
   have hb := cnt_le f4 ((n : Int) - (i : Nat)) j
   have e1 : IntKind.wrap .i64 (cnt f4 ((n : Int) - (i : Nat)) j + 1) = cnt f4 ((n : Int) - (i : Nat)) j + 1 := wrap64 (by omega) (by omega)
   simp only [Int.toNat_natCast, Int.natCast_nonneg, Int.ofNat_lt, hj, decide_true, Bool.and_self, cond_true, Option.bind_some, wsucc (show j < 4611686018427387904 by omega), e1, cnt]
   cases decide (f4 j ≥ (n : Int) - (i : Nat)) <;> rfl
  ·unfold F_impl_Node_agree_M_B2 F_impl_Node_isQuorum agrAt
   have e2 : IntKind.wrap .i64 ((n : Int) - (i : Nat) - 1) = ((n - i - 1 : Nat) : Int) := by rw [wrap64 (by omega) (by omega)]; omega
   have e3 : n - i - 1 < n := by omega
   have e4 : ((n : Int) - ((i + 1 : Nat) : Int)) = ((n - i - 1 : Nat) : Int) := by omega
   simp only [Int.lt_irrefl, decide_false, cond_false, Option.bind_some, e2, e4, Int.toNat_natCast, Int.natCast_nonneg, e3, decide_true, Bool.and_self, cond_true]
   cases decide (IntKind.wrap .i64 (2 * cnt f4 ((n : Int) - (i : Nat)) m) > p) <;> simp only [cond_true, cond_false, Option.bind_some, Bool.true_and, Bool.false_and] <;> first
    | rfl
    | (cases ((f1 (n - i - 1)).Term == t) <;> rfl)
 ·unfold F_impl_Node_agree_M_B0
  have hc : ¬ ((n : Int) - ((((n : Int) - c).toNat : Nat) : Int) > c) := by omega
  simp only [hc, decide_false, cond_false]
theorem t_specAgree {ρ : Type} {fu : Nat} (hf : 2000000 ≤ fu) {a1 a2 a3 a4 a5 a6 a7 a8 a9 a10 a11 : Int} {a12 : Sl S_impl_Entry} {a13 a14 : Int} {a15 a16 a17 : Sl Int} {a18 a19 p t a22 : Int} {n : Nat} {a24 c : Int} {a26 m a28 a29 : Nat} {f : Nat → S_impl_Entry}
  {a31 : Nat} {a32 : Nat → Int} {a33 : Nat} {a34 : Nat → Int} {a35 : Nat} {a36 : Nat → Int} {a37 : Nat} {a38 : Nat → Int} {a39 a40 : Nat} {a41 : Nat → S_impl_Mail} {a42 : Nat} {a43 : Nat → Int} {a44 : Nat} {g : Nat → Int} {k0 : Int → Option ρ} {k1 : Option ρ}
  (hn : n ≤ 1048576) (hm : m ≤ 1048576) (h0 : 0 ≤ c) (h1 : c ≤ n) (hk : k1 = k0 c) :
  L (fun w0 go0 => F_spec_TimeoutNode_U_i1_i1_B0 fu a1 a2 a3 a4 a5 a6 a7 a8 a9 a10 a11 a12 a13 a14 a15 a16 a17 a18 a19 p t a22 n a24 c a26 m a28 a29 f a31 a32 a33 a34 a35 a36 a37 a38 a39 a40 a41 a42 a43 a44 g k0 k1 w0 go0) fu (n : Int) = k0 (agr p t n f m g c) := by
 refine L_agr hf p t c n m f g k0 k1 hn h0 h1 (fun i go hi => ?_) (fun go => ?_) hk
 ·unfold F_spec_TimeoutNode_U_i1_i1_B0
  have hc : (n : Int) - (i : Nat) > c := by omega
  simp only [hc, decide_true, cond_true]
  refine stepL m (fun j => (cnt g ((n : Int) - (i : Nat)) j, (j : Int))) (by omega) rfl (fun j go2 hj => ?_) (fun go2 => ?_)
  ·unfold F_spec_TimeoutNode_U_i1_i1_B2
   have hb := cnt_le g ((n : Int) - (i : Nat)) j
   have e1 : IntKind.wrap .i64 (cnt g ((n : Int) - (i : Nat)) j + 1) = cnt g ((n : Int) - (i : Nat)) j + 1 := wrap64 (by omega) (by omega)
   simp only [Int.toNat_natCast, Int.natCast_nonneg, Int.ofNat_lt, hj, decide_true, Bool.and_self, cond_true, Option.bind_some, wsucc (show j < 4611686018427387904 by omega), e1, cnt]
   cases decide (g j ≥ (n : Int) - (i : Nat)) <;> rfl
  ·unfold F_spec_TimeoutNode_U_i1_i1_B2 agrAt
   have e2 : IntKind.wrap .i64 ((n : Int) - (i : Nat) - 1) = ((n - i - 1 : Nat) : Int) := by rw [wrap64 (by omega) (by omega)]; omega
   have e3 : n - i - 1 < n := by omega
   have e4 : ((n : Int) - ((i + 1 : Nat) : Int)) = ((n - i - 1 : Nat) : Int) := by omega
   simp only [Int.lt_irrefl, decide_false, cond_false, Option.bind_some, e2, e4, Int.toNat_natCast, Int.natCast_nonneg, e3, decide_true, Bool.and_self, cond_true]
   cases decide (IntKind.wrap .i64 (2 * cnt g ((n : Int) - (i : Nat)) m) > p) <;> simp only [cond_true, cond_false, Option.bind_some, Bool.true_and, Bool.false_and] <;> first
    | rfl
    | (cases ((f (n - i - 1)).Term == t) <;> rfl)
 ·unfold F_spec_TimeoutNode_U_i1_i1_B0
  have hc : ¬ ((n : Int) - ((((n : Int) - c).toNat : Nat) : Int) > c) := by omega
  simp only [hc, decide_false, cond_false]
def mailV (x : S_impl_Node) (i : Nat) : S_impl_Mail := ⟨1, x.Id, i, IntKind.wrap .i64 (x.Term + 1), x.Log.n, (lastE x.Log).Term, 0, false, ⟨some true, 0, fun _ => dflt .impl_Entry⟩⟩
def one (v : Int) : Nat → Int := fun i => [v].getD i (dflt .i64)
def candN (x : S_impl_Node) : S_impl_Node := ⟨x.Id, x.Peers, IntKind.wrap .i64 (x.Term + 1), x.Id, fresh x.Log, 1, x.Commit, ⟨none, 1, one x.Id⟩, fresh x.Next, fresh x.Match⟩
def nextL (x : S_impl_Node) : Nat → Int := one (IntKind.wrap .i64 ((x.Log.n : Int) + 1))
def matL (x : S_impl_Node) : Nat → Int := fun j => if j = x.Id.toNat then (x.Log.n : Int) else 0
def leadN (x : S_impl_Node) : S_impl_Node := ⟨x.Id, x.Peers, IntKind.wrap .i64 (x.Term + 1), x.Id, fresh x.Log, 2, agr x.Peers (IntKind.wrap .i64 (x.Term + 1)) x.Log.n x.Log.f 1 (matL x) x.Commit, ⟨none, 0, fun _ => dflt .i64⟩, ⟨none, 1, nextL x⟩, ⟨none, 1, matL x⟩⟩
def timeR (x : S_impl_Node) : NodeT :=
 bif nodef x != 0 then failN (nodef x) else bif x.Role == 2 then failN 10 else bif x.Term == 100000 then failN 3 else
  bif decide ((2 : Int) > x.Peers) then nodeT 0 (leadN x) (nA x x.Peers.toNat) (fA x (mailV x) x.Peers.toNat) else nodeT 0 (candN x) (nA x x.Peers.toNat) (fA x (mailV x) x.Peers.toNat)
theorem one_as (v : Int) : (fun i => if i < 0 then (dflt .i64 : Int) else (fun i => [v].getD i (dflt .i64)) (i - 0)) = one v := by
 funext i
 exact if_neg (Nat.not_lt_zero i)
theorem one_zero : one 0 = fun _ => 0 := by
 funext i
 cases i <;> rfl
theorem mat_as (x : S_impl_Node) : (fun j => if j = x.Id.toNat then (x.Log.n : Int) else one 0 j) = matL x := by
 rw [one_zero]; rfl
theorem s_TimeoutNode {fu : Nat} (hf : 2000000 ≤ fu) (x : S_impl_Node) (hx : NodeLen x) : F_spec_TimeoutNode_U fu x = some (timeR x) := by
 unfold F_spec_TimeoutNode_U timeR
 simp only [s_NodeFault0 hf x hx, bad_U, Option.bind_some]
 cases h1 : (nodef x != 0) with
 | true => rfl
 | false =>
 cases h2 : (x.Role == 2) with
 | true => rfl
 | false =>
 cases h3 : (x.Term == 100000) with
 | true => rfl
 | false =>
 have hR := nodef_right h1
 have hp := hR.peers
 have hlog := hx.log
 simp only [cond_false, c_l8Copy fu x hx, Option.bind_some]
 refine stepL x.Peers.toNat (fun i => ((i : Int), nA x i, nA x i, nA x i, fA x (mailV x) i)) (by omega) rfl (fun i go hi => ?_) (fun go => ?_)
 ·have hle := nA_le x i
  unfold F_spec_TimeoutNode_U_B0
  have hlt : (i : Int) < x.Peers := by omega
  have k1 : nA x i + 1 ≤ 9223372036854775807 := by omega
  have k2 : (nA x i + 1) * 88 ≤ 140737488355328 := by omega
  simp only [hlt, decide_true, cond_true, s_LastOf fu x.Log hx.log, Option.bind_some, wsucc (show i < 4611686018427387904 by omega), nA, fA, k1, k2, Nat.le_refl, Bool.and_self]
  cases ((i : Int) != x.Id) <;> rfl
 ·unfold F_spec_TimeoutNode_U_B0
  have hlt : ¬ ((x.Peers.toNat : Nat) : Int) < x.Peers := by omega
  simp only [hlt, decide_false, cond_false]
  cases h4 : decide ((2 : Int) > x.Peers) with
  | false =>
   simp only [cond_false, Nat.le_refl, decide_true, Bool.and_self, cond_true]
   rfl
  | true =>
   have h5 := of_decide_eq_true h4
   have hp1 : x.Peers = 1 := by omega
   have hid := hR.id
   have hi0 : x.Id = 0 := by omega
   simp only [cond_true]
   refine stepL 1 (fun i => bif i == 0 then ((0 : Int), 0, 0, 0, (fun _ => dflt .i64), 0, (fun _ => dflt .i64)) else ((1 : Int), 1, 1, 1, one (IntKind.wrap .i64 ((x.Log.n : Int) + 1)), 1, one 0)) (by omega) rfl (fun i go2 hi => ?_) (fun go2 => ?_)
   ·have : i = 0 := by omega
    subst this
    unfold F_spec_TimeoutNode_U_i1_B0
    rw [← one_as, ← one_as]
    simp only [hp1]
    rfl
   ·unfold F_spec_TimeoutNode_U_i1_B0
    simp only [show ((1 : Nat) == 0) = false from rfl, cond_false, hp1, Int.lt_irrefl, decide_false, hi0, show (0 : Int).toNat = 0 from rfl, Int.le_refl, show ((0 : Nat) < 1) = True from by simp, decide_true, Bool.and_self, cond_true, Option.bind_some]
    refine (t_specAgree hf (show (fresh x.Log).n ≤ 1048576 from hlog) (show 1 ≤ 1048576 by omega) hR.commit.1 hR.commit.2 ?_).trans ?_
    ·simp only [Nat.le_refl, decide_true, Bool.and_self, cond_true]
    ·simp only [Nat.le_refl, decide_true, Bool.and_self, cond_true]
     unfold leadN nextL matL
     rw [one_zero]
     simp only [hp1, hi0]
     rfl
theorem rep_one {fu : Nat} (hf : 2000000 ≤ fu) (z : Option Bool) (v : Int) : F_slices_Repeat_int64_int64_H fu ⟨z, 1, one v⟩ 1 = some ⟨none, 1, one v⟩ := by
 have hm : F_bits_Mul fu (IntKind.wrap .u64 ((1 : Nat) : Int)) (IntKind.wrap .u64 1) = some (0, 1) := by rfl
 unfold F_slices_Repeat_int64_int64_H
 simp only [hm, Option.bind_some, show decide ((1 : Int) < 0) = false from rfl, show decide ((0 : Int) > 0) = false from rfl, show decide ((1 : Int) > 9223372036854775807) = false from rfl, cond_false, show IntKind.wrap .i64 (1 : Int) = 1 from rfl,
  show (1 : Int).toNat = 1 from rfl, show min 1 1 = 1 from rfl]
 have he : (fun i => if 0 ≤ i ∧ i < 0 + 1 then one v (i - 0) else (fun _ => 0) i) = one v := by
  funext i
  cases i with
  | zero => rfl
  | succ i =>
   have : ¬ (0 ≤ i + 1 ∧ i + 1 < 0 + 1) := by omega
   simp only [this, if_false]
   rfl
 rw [he]
 refine stepL 0 (fun _ => ((1 : Int), one v)) (by omega) rfl (fun i go hi => absurd hi (Nat.not_lt_zero _)) (fun go => ?_)
 unfold F_slices_Repeat_int64_int64_H_B0
 rfl
theorem t_lead {fu : Nat} (hf : 2000000 ≤ fu) (t v r c : Int) (n q1 q2 q3 n2 n3 n4 : Nat) (f1 : Nat → S_impl_Entry) (f2 f3 f4 : Nat → Int) (hn : n ≤ 1048576) (h0 : 0 ≤ c) (h1 : c ≤ n) :
  F_impl_Node_lead_M fu 0 1 t v n r c q1 q2 q3 n f1 n2 f2 n3 f3 n4 f4 = some (0, 1, t, v, n, 2, agr 1 t n f1 1 (fun j => if j = 0 then (n : Int) else 0) c, 1, 1, n, f1, n2, f2, n3, f3, n4, f4, 1, one (IntKind.wrap .i64 ((n : Int) + 1)), 1, fun j => if j = 0 then (n : Int) else 0) := by
 unfold F_impl_Node_lead_M F_impl_size_impl_Entry F_impl_Node_isQuorum
 have hr := rep_one hf (some false) (IntKind.wrap .i64 ((n : Int) + 1))
 unfold one at hr
 have ha := t_agree hf 0 1 t v 2 c n 1 1 n 1 1 f1 (one (IntKind.wrap .i64 ((n : Int) + 1))) (fun j => if j = 0 then (n : Int) else 0) hn (by omega) h0 h1
 unfold one at ha
 have hq : decide (IntKind.wrap .i64 (2 * 1) > (1 : Int)) = true := rfl
 have hd : decide (0 ≤ (1 : Int)) && (decide ((1 : Int) = 1) && (decide ((8 : Int) * 1 ≤ 281474976710656) && decide ((1 : Int) ≤ 9223372036854775807))) = true := rfl
 have hx : (decide (0 ≤ (0 : Int)) && decide (Int.toNat 0 < Int.toNat 1)) = true := rfl
 simp only [Option.bind_some, hr, hd, hx, hq, cond_true]
 unfold one
 exact congrArg (fun z => Option.bind z _) ha
theorem i_TimeoutNode {fu : Nat} (hf : 2000000 ≤ fu) (x : S_impl_Node) (hx : NodeLen x) : F_impl_TimeoutNode_U fu x = some (timeR x) := by
 unfold F_impl_TimeoutNode_U timeR
 simp only [i_NodeFault hf x hx, Option.bind_some]
 cases h1 : (nodef x != 0) with
 | true => rfl
 | false =>
 cases h2 : (x.Role == 2) with
 | true => rfl
 | false =>
 cases h3 : (x.Term == 100000) with
 | true => rfl
 | false =>
 have hR := nodef_right h1
 have hp := hR.peers
 have hlog := hx.log
 simp only [cond_false, c_copied fu x hx, Option.bind_some]
 refine stepL x.Peers.toNat (fun i => ((i : Int), nA x i, nA x i, nA x i, fA x (mailV x) i)) (by omega) rfl (fun i go hi => ?_) (fun go => ?_)
 ·have hle := nA_le x i
  unfold F_impl_TimeoutNode_U_i0_B0 F_impl_size_impl_Entry
  have hlt : (i : Int) < x.Peers := by omega
  have k1 : nA x i + 1 ≤ 9223372036854775807 := by omega
  have k2 : (nA x i + 1) * 88 ≤ 140737488355328 := by omega
  simp only [hlt, decide_true, cond_true, i_last fu x.Log hx.log, Option.bind_some, wsucc (show i < 4611686018427387904 by omega), nA, fA, k1, k2, Nat.le_refl, Bool.and_self]
  cases ((i : Int) != x.Id) <;> rfl
 ·unfold F_impl_TimeoutNode_U_i0_B0 F_impl_Node_isQuorum
  have hlt : ¬ ((x.Peers.toNat : Nat) : Int) < x.Peers := by omega
  simp only [hlt, decide_false, cond_false, Option.bind_some, show IntKind.wrap .i64 (2 * 1) = 2 from rfl]
  cases h4 : decide ((2 : Int) > x.Peers) with
  | false =>
   simp only [cond_false, Nat.le_refl, decide_true, Bool.and_self, cond_true]
   rfl
  | true =>
   have h5 := of_decide_eq_true h4
   have hp1 : x.Peers = 1 := by omega
   have hid := hR.id
   have hi0 : x.Id = 0 := by omega
   simp only [cond_true, hp1, hi0]
   have hl := t_lead hf (IntKind.wrap .i64 (x.Term + 1)) 0 1 x.Commit x.Log.n 1 x.Next.n x.Match.n 1 x.Next.n x.Match.n x.Log.f (one 0) x.Next.f x.Match.f hlog hR.commit.1 hR.commit.2
   unfold one at hl
   simp only [fresh, hl, Option.bind_some, Nat.le_refl, decide_true, Bool.and_self, cond_true]
   unfold leadN nextL matL
   simp only [hp1, hi0]
   rfl
end Go.Proofs.Ytjdgfkmiaikegaa.Pe

