/- Plain laws of nodes and mails: what the reference and the program compute is one. Conditions: none. -/
import Derived.Test.YtjdgfkmiaikegaaPePlLog2
namespace Go.Proofs.Ytjdgfkmiaikegaa.Pe
open Go Go.RowKit Go.Proofs Vm
set_option linter.unusedVariables false
set_option linter.unusedSimpArgs false
set_option maxRecDepth 100000
def allb (n : Nat) (g : Nat → Bool) : Bool := (List.range n).all g
theorem allb_iff {n : Nat} {g : Nat → Bool} : allb n g = true ↔ ∀ i, i < n → g i = true := by simp [allb]
theorem allb_congr {n : Nat} {g h : Nat → Bool} (e : ∀ i, i < n → g i = h i) : allb n g = allb n h := by
 rw [Bool.eq_iff_iff, allb_iff, allb_iff]
 exact ⟨fun a i hi => by rw [← e i hi]; exact a i hi, fun a i hi => by rw [e i hi]; exact a i hi⟩
theorem allb_and (n : Nat) (g h : Nat → Bool) : allb n (fun i => g i && h i) = (allb n g && allb n h) := by
 rw [Bool.eq_iff_iff, Bool.and_eq_true, allb_iff, allb_iff, allb_iff]
 constructor
 ·intro a
  exact ⟨fun i hi => ((Bool.and_eq_true _ _).mp (a i hi)).1, fun i hi => ((Bool.and_eq_true _ _).mp (a i hi)).2⟩
 ·rintro ⟨a, b⟩ i hi
  exact (Bool.and_eq_true _ _).mpr ⟨a i hi, b i hi⟩
theorem L_all {ρ V : Type} {B : V → (V → Option ρ) → Option ρ} (st : Nat → V) (n i0 : Nat) (bad : Nat → Bool) (k0 k1 : Option ρ) (h0 : i0 ≤ n)
  (h1 : ∀ i go, i0 ≤ i → i < n → B (st i) go = bif bad i then k0 else go (st (i + 1))) (h2 : ∀ go, B (st n) go = k1) (fu : Nat) (hf : n < fu) :
  L B fu (st i0) = bif allb n (fun i => decide (i < i0) || !bad i) then k1 else k0 := by
 have key : ∀ m i fu, i + m = n → m < fu → i0 ≤ i → L B fu (st i) = bif allb n (fun j => decide (j < i) || !bad j) then k1 else k0 := by
  intro m
  induction m with
  | zero =>
   intro i fu hi hf hl
   obtain ⟨fu, rfl⟩ : ∃ k, fu = k + 1 := ⟨fu - 1, by omega⟩
   have : i = n := by omega
   subst this
   have e : allb i (fun j => decide (j < i) || !bad j) = true := allb_iff.2 (fun j hj => by simp [hj])
   rw [e]
   simp only [L, h2, cond_true]
  | succ m ih =>
   intro i fu hi hf hl
   obtain ⟨fu, rfl⟩ : ∃ k, fu = k + 1 := ⟨fu - 1, by omega⟩
   simp only [L]
   rw [h1 i _ hl (by omega)]
   cases hb : bad i with
   | true =>
    have e : allb n (fun j => decide (j < i) || !bad j) = false := by
     rw [Bool.eq_false_iff]
     intro h
     have := allb_iff.1 h i (by omega)
     simp [hb] at this
    rw [e]; rfl
   | false =>
    simp only [cond_false]
    rw [ih (i + 1) fu (by omega) (by omega) (by omega)]
    congr 1
    refine allb_congr (fun j hj => ?_)
    by_cases hji : j = i
    ·subst hji; simp [hb]
    ·have : decide (j < i + 1) = decide (j < i) := by
      rw [decide_eq_decide]; omega
     rw [this]
 exact key (n - i0) i0 fu (by omega) (by omega) (Nat.le_refl _)
theorem L_all0 {ρ V : Type} {B : V → (V → Option ρ) → Option ρ} (st : Nat → V) (n : Nat) (bad : Nat → Bool) (k0 k1 : Option ρ)
  (h1 : ∀ i go, i < n → B (st i) go = bif bad i then k0 else go (st (i + 1))) (h2 : ∀ go, B (st n) go = k1) (fu : Nat) (hf : n < fu) :
  L B fu (st 0) = bif allb n (fun i => !bad i) then k1 else k0 := by
 rw [L_all st n 0 bad k0 k1 (Nat.zero_le _) (fun i go _ hi => h1 i go hi) h2 fu hf]
 simp
def pm (x : S_impl_Node) : Int := IntKind.wrap .i64 (x.Peers - 1)
theorem s_Id (fu : Nat) (x : S_impl_Node) (i : Int) : F_spec_l8Id fu x i = some (rng i 0 (pm x)) := by unfold F_spec_l8Id pm; simp [p_l1In]
theorem i_isId (fu : Nat) (x : S_impl_Node) (i : Int) : F_impl_Node_isId fu x i = some (rng i 0 (pm x)) := by unfold F_impl_Node_isId pm; simp [p_in]
def rise (v : Sl Int) : Bool := allb v.n (fun i => !(decide (0 < i) && decide (v.f i ≤ v.f (i - 1))))
def ids (x : S_impl_Node) : Bool := allb x.Votes.n (fun i => rng (x.Votes.f i) 0 (pm x))
def want (x : S_impl_Node) : Int := bif x.Role == 2 then x.Peers else 0
def nexts (x : S_impl_Node) : Bool := allb x.Next.n (fun i => rng (x.Next.f i) 1 ((x.Log.n : Int) + 1))
def matchs (x : S_impl_Node) : Bool := allb x.Match.n (fun i => rng (x.Match.f i) 0 (x.Log.n : Int))
def lists (x : S_impl_Node) : Bool := rise x.Votes && (!(decide ((x.Votes.n : Int) > 0) && (x.Role != 1)) && (ids x && (((x.Next.n : Int) == want x) && ((x.Match.n : Int) == want x))))
def head (x : S_impl_Node) : Bool := rng x.Peers 1 5 && (rng x.Id 0 (pm x) && (rng x.Term 0 100000 && (rng x.Voted (-1) (pm x) && rng x.Role 0 2)))
def roleBad (x : S_impl_Node) : Bool := (x.Role != 0) && ((x.Voted != x.Id) || (x.Term == 0))
def nodef (x : S_impl_Node) : Int :=
 bif !head x then 3 else bif logf x.Log != 0 then logf x.Log else bif decide ((lastE x.Log).Term > x.Term) then 1 else bif !rng x.Commit 0 (x.Log.n : Int) then 3 else
  bif !lists x then 1 else bif !(nexts x && matchs x) then 3 else bif roleBad x then 1 else 0
theorem s_Rises {fu : Nat} (hf : 2000000 ≤ fu) (v : Sl Int) (hv : v.n ≤ 1048576) : F_spec_l8Rises fu v = some (rise v) := by
 unfold F_spec_l8Rises rise
 by_cases h0 : v.n = 0
 ·obtain ⟨fu, rfl⟩ : ∃ k, fu = k + 1 := ⟨fu - 1, by omega⟩
  simp [L, F_spec_l8Rises_B0, h0, allb]
 ·have h := L_all (B := fun w0 go0 => F_spec_l8Rises_B0 fu v (some false) (some true) w0 go0) (fun i => (i : Int)) v.n 1 (fun i => decide (v.f i ≤ v.f (i - 1))) (some false) (some true) (by omega)
   (fun i go h1 hi => by
    unfold F_spec_l8Rises_B0
    have hp : i - 1 < v.n := by omega
    simp only [Int.toNat_natCast, Int.natCast_nonneg, Int.ofNat_lt, hi, decide_true, Bool.and_self, cond_true, Option.bind_some, wpred (show 0 < i by omega) (show i < 4611686018427387904 by omega), hp, wsucc (show i < 4611686018427387904 by omega)])
   (fun go => by unfold F_spec_l8Rises_B0; simp) fu (by omega)
  rw [show ((1 : Nat) : Int) = 1 from rfl] at h
  rw [h]
  have e : allb v.n (fun i => decide (i < 1) || !decide (v.f i ≤ v.f (i - 1))) = allb v.n (fun i => !(decide (0 < i) && decide (v.f i ≤ v.f (i - 1)))) := allb_congr (fun i _ => by
   by_cases h : i = 0
   ·subst h; rfl
   ·have h1 : ¬ i < 1 := by omega
    have h2 : 0 < i := by omega
    simp [h1, h2])
  rw [e]
  cases allb v.n (fun i => !(decide (0 < i) && decide (v.f i ≤ v.f (i - 1)))) <;> rfl
structure NodeLen (x : S_impl_Node) : Prop where
 log : x.Log.n ≤ 1048576
 votes : x.Votes.n ≤ 1048576
 next : x.Next.n ≤ 1048576
 mat : x.Match.n ≤ 1048576
theorem s_Lists {fu : Nat} (hf : 2000000 ≤ fu) (x : S_impl_Node) (hx : NodeLen x) : F_spec_l8Lists fu x = some (lists x) := by
 have hv := hx.votes
 unfold F_spec_l8Lists lists
 simp only [s_Rises hf x.Votes hx.votes, Option.bind_some]
 have h := L_all0 (B := fun w0 go0 => F_spec_l8Lists_B0 fu x.Id x.Peers x.Term x.Voted x.Log x.Role x.Commit x.Votes x.Next x.Match (some false) (some (((x.Next.n : Int) == want x) && ((x.Match.n : Int) == want x))) w0 go0) (fun i => (i : Int)) x.Votes.n (fun i => !rng (x.Votes.f i) 0 (pm x)) (some false) (some (((x.Next.n : Int) == want x) && ((x.Match.n : Int) == want x)))
  (fun i go hi => by
   unfold F_spec_l8Lists_B0
   simp only [Int.toNat_natCast, Int.natCast_nonneg, Int.ofNat_lt, hi, decide_true, Bool.and_self, cond_true, Option.bind_some, s_Id, wsucc (show i < 4611686018427387904 by omega)])
  (fun go => by unfold F_spec_l8Lists_B0; simp) fu (by omega)
 simp only [Bool.not_not] at h
 rw [show ((0 : Nat) : Int) = 0 from rfl] at h
 have e : (bif (x.Role == 2) then (((bif (((x.Next.n : Nat) : Int) == x.Peers) then (some (((x.Match.n : Nat) : Int) == x.Peers)) else (some false)) : Option Bool).bind fun m217 => (some m217)) else
  (((bif (((x.Next.n : Nat) : Int) == 0) then (some (((x.Match.n : Nat) : Int) == 0)) else (some false)) : Option Bool).bind fun m218 => (some m218))) = some (((x.Next.n : Int) == want x) && ((x.Match.n : Int) == want x)) := by
  unfold want
  cases (x.Role == 2) <;> simp only [cond_true, cond_false]
  ·cases (((x.Next.n : Nat) : Int) == 0) <;> rfl
  ·cases (((x.Next.n : Nat) : Int) == x.Peers) <;> rfl
 rw [e, h]
 unfold ids
 cases rise x.Votes <;> simp only [Bool.not_true, Bool.not_false, cond_true, cond_false, Option.bind_some, Bool.true_and, Bool.false_and]
 cases decide ((x.Votes.n : Int) > 0) <;> cases (x.Role != 1) <;> simp only [cond_true, cond_false, Option.bind_some, Bool.true_and, Bool.and_true, Bool.and_false, Bool.false_and, Bool.not_true, Bool.not_false] <;>
  cases allb x.Votes.n (fun i => rng (x.Votes.f i) 0 (pm x)) <;> rfl
theorem s_NodeFault0 {fu : Nat} (hf : 2000000 ≤ fu) (x : S_impl_Node) (hx : NodeLen x) : F_spec_l8Fault fu x = some (nodef x) := by
 unfold F_spec_l8Fault nodef
 simp only [p_l1In, s_Id, s_LogFault hf, s_LastOf fu x.Log hx.log, s_Lists hf x hx, Option.bind_some]
 have eh : ((bif (!rng x.Peers 1 5) then (some true) else (bif (!rng x.Id 0 (pm x)) then (some true) else (bif (!rng x.Term 0 100000) then (some true) else (bif (!rng x.Voted (-1) (IntKind.wrap .i64 (x.Peers - 1))) then (some true) else (some (!rng x.Role 0 2)))))) : Option Bool) = some (!head x) := by
  unfold head
  show (bif (!rng x.Peers 1 5) then (some true) else (bif (!rng x.Id 0 (pm x)) then (some true) else (bif (!rng x.Term 0 100000) then (some true) else (bif (!rng x.Voted (-1) (pm x)) then (some true) else (some (!rng x.Role 0 2)))))) = _
  cases rng x.Peers 1 5 <;> cases rng x.Id 0 (pm x) <;> cases rng x.Term 0 100000 <;> cases rng x.Voted (-1) (pm x) <;> rfl
 rw [eh]
 simp only [Option.bind_some]
 cases hh : head x <;> simp only [Bool.not_true, Bool.not_false, cond_true, cond_false]
 cases hl : (logf x.Log != 0) <;> simp only [cond_true, cond_false]
 have hlen : x.Log.n ≤ 40 := logf_len (by simpa using hl)
 cases decide ((lastE x.Log).Term > x.Term) <;> simp only [cond_true, cond_false]
 cases rng x.Commit 0 (x.Log.n : Int) <;> simp only [Bool.not_true, Bool.not_false, cond_true, cond_false]
 cases hli : lists x <;> simp only [Bool.not_true, Bool.not_false, cond_true, cond_false]
 have hnm : x.Next.n = x.Match.n := by
  unfold lists at hli
  simp only [Bool.and_eq_true, beq_iff_eq] at hli
  omega
 have hw : IntKind.wrap .i64 ((x.Log.n : Int) + 1) = (x.Log.n : Int) + 1 := wrap64 (by omega) (by omega)
 have er : ((bif (x.Role != 0) then (bif (x.Voted != x.Id) then (some true) else (some (x.Term == 0))) else (some false)) : Option Bool) = some (roleBad x) := by
  unfold roleBad
  cases (x.Role != 0) <;> cases (x.Voted != x.Id) <;> rfl
 rw [er]
 simp only [Option.bind_some]
 have h := L_all0 (ρ := Int) (B := fun w0 go0 => F_spec_l8Fault_B0 fu x.Id x.Peers x.Term x.Voted x.Log x.Role x.Commit x.Votes x.Next x.Match ((x.Log.n : Nat) : Int) (some 3) (bif roleBad x then (some 1) else (some 0)) w0 go0) (fun i => (i : Int)) x.Next.n (fun i => !rng (x.Next.f i) 1 ((x.Log.n : Int) + 1) || !rng (x.Match.f i) 0 (x.Log.n : Int)) (some 3) (bif roleBad x then (some 1) else (some 0))
  (fun i go hi => by
   have hi' : i < x.Match.n := by omega
   have hxn := hx.next
   unfold F_spec_l8Fault_B0
   simp only [Int.toNat_natCast, Int.natCast_nonneg, Int.ofNat_lt, hi, hi', decide_true, Bool.and_self, cond_true, Option.bind_some, p_l1In, hw, wsucc (show i < 4611686018427387904 by omega)]
   cases rng (x.Next.f i) 1 ((x.Log.n : Int) + 1) <;> cases rng (x.Match.f i) 0 (x.Log.n : Int) <;> rfl)
  (fun go => by unfold F_spec_l8Fault_B0; simp) fu (by have := hx.next; omega)
 rw [show ((0 : Nat) : Int) = 0 from rfl] at h
 rw [h]
 have e : allb x.Next.n (fun i => !(!rng (x.Next.f i) 1 ((x.Log.n : Int) + 1) || !rng (x.Match.f i) 0 (x.Log.n : Int))) = (nexts x && matchs x) := by
  unfold nexts matchs
  rw [← hnm, ← allb_and]
  exact allb_congr (fun i _ => by simp)
 rw [e]
 cases (nexts x && matchs x) <;> cases roleBad x <;> rfl
theorem c_next {fu : Nat} (hf : 2000000 ≤ fu) (v : Sl Int) (hv : v.n ≤ 1048576) (m : Int) : F_slices_ContainsFunc_int64_int64_w_impl_NodeFault_c1 fu v m = some (!allb v.n (fun i => rng (v.f i) 1 (IntKind.wrap .i64 (m + 1)))) := by
 unfold F_slices_ContainsFunc_int64_int64_w_impl_NodeFault_c1 F_slices_IndexFunc_int64_int64_w_impl_NodeFault_c1
 have h := L_scan (B := fun w0 go0 => F_slices_IndexFunc_int64_int64_w_impl_NodeFault_c1_B0 fu v m ((v.n : Nat) : Int) (fun z248 => (some z248)) (some (-1)) w0 go0) (fun i => (i : Int)) v.n (fun i => bif rng (v.f i) 1 (IntKind.wrap .i64 (m + 1)) then none else some i) (fun i => some (i : Int)) (some (-1))
  (fun i go hi => by
   unfold F_slices_IndexFunc_int64_int64_w_impl_NodeFault_c1_B0 F_impl_NodeFault_c1
   simp only [Int.toNat_natCast, Int.natCast_nonneg, Int.ofNat_lt, hi, decide_true, Bool.and_self, cond_true, Option.bind_some, p_in, wsucc (show i < 4611686018427387904 by omega)]
   cases rng (v.f i) 1 (IntKind.wrap .i64 (m + 1)) <;> rfl)
  (fun go => by unfold F_slices_IndexFunc_int64_int64_w_impl_NodeFault_c1_B0; simp) v.n 0 fu (by omega) (by omega)
 rw [show ((0 : Nat) : Int) = 0 from rfl] at h
 rw [h]
 cases hs : scan (fun i => bif rng (v.f i) 1 (IntKind.wrap .i64 (m + 1)) then none else some i) v.n 0 with
 | none =>
  have : allb v.n (fun i => rng (v.f i) 1 (IntKind.wrap .i64 (m + 1))) = true := allb_iff.2 (fun i hi => by
   have := scan_none.1 hs i (by omega) (by omega)
   cases hr : rng (v.f i) 1 (IntKind.wrap .i64 (m + 1)) with
   | true => rfl
   | false => simp [hr] at this)
  rw [this]; rfl
 | some j =>
  have : allb v.n (fun i => rng (v.f i) 1 (IntKind.wrap .i64 (m + 1))) = false := by
   rw [Bool.eq_false_iff]
   intro ha
   have : scan (fun i => bif rng (v.f i) 1 (IntKind.wrap .i64 (m + 1)) then none else some i) v.n 0 = none := scan_none.2 (fun i _ hi => by rw [allb_iff.1 ha i (by omega)]; rfl)
   rw [this] at hs; cases hs
  rw [this]
  simp
theorem c_match {fu : Nat} (hf : 2000000 ≤ fu) (v : Sl Int) (hv : v.n ≤ 1048576) (m : Int) : F_slices_ContainsFunc_int64_int64_w_impl_NodeFault_c2 fu v m = some (!allb v.n (fun i => rng (v.f i) 0 m)) := by
 unfold F_slices_ContainsFunc_int64_int64_w_impl_NodeFault_c2 F_slices_IndexFunc_int64_int64_w_impl_NodeFault_c2
 have h := L_scan (B := fun w0 go0 => F_slices_IndexFunc_int64_int64_w_impl_NodeFault_c2_B0 fu v m ((v.n : Nat) : Int) (fun z248 => (some z248)) (some (-1)) w0 go0) (fun i => (i : Int)) v.n (fun i => bif rng (v.f i) 0 m then none else some i) (fun i => some (i : Int)) (some (-1))
  (fun i go hi => by
   unfold F_slices_IndexFunc_int64_int64_w_impl_NodeFault_c2_B0 F_impl_NodeFault_c2
   simp only [Int.toNat_natCast, Int.natCast_nonneg, Int.ofNat_lt, hi, decide_true, Bool.and_self, cond_true, Option.bind_some, p_in, wsucc (show i < 4611686018427387904 by omega)]
   cases rng (v.f i) 0 m <;> rfl)
  (fun go => by unfold F_slices_IndexFunc_int64_int64_w_impl_NodeFault_c2_B0; simp) v.n 0 fu (by omega) (by omega)
 rw [show ((0 : Nat) : Int) = 0 from rfl] at h
 rw [h]
 cases hs : scan (fun i => bif rng (v.f i) 0 m then none else some i) v.n 0 with
 | none =>
  have : allb v.n (fun i => rng (v.f i) 0 m) = true := allb_iff.2 (fun i hi => by
   have := scan_none.1 hs i (by omega) (by omega)
   cases hr : rng (v.f i) 0 m with
   | true => rfl
   | false => simp [hr] at this)
  rw [this]; rfl
 | some j =>
  have : allb v.n (fun i => rng (v.f i) 0 m) = false := by
   rw [Bool.eq_false_iff]
   intro ha
   have : scan (fun i => bif rng (v.f i) 0 m then none else some i) v.n 0 = none := scan_none.2 (fun i _ hi => by rw [allb_iff.1 ha i (by omega)]; rfl)
   rw [this] at hs; cases hs
  rw [this]
  simp
theorem i_NodeFault {fu : Nat} (hf : 2000000 ≤ fu) (x : S_impl_Node) (hx : NodeLen x) : F_impl_NodeFault fu x = some (nodef x) := by
 unfold F_impl_NodeFault nodef
 simp only [p_in, i_isId, i_LogFault hf, i_last fu x.Log hx.log, F_impl_size_impl_Entry, F_impl_size_int64, c_next hf x.Next hx.next, c_match hf x.Match hx.mat, Option.bind_some]
 have eh : ((bif (!rng x.Peers 1 5) then (some true) else (bif (!rng x.Id 0 (pm x)) then (some true) else (bif (!rng x.Term 0 100000) then (some true) else (bif (x.Voted != (-1)) then (bif (!rng x.Voted 0 (pm x)) then (some true) else (some (!rng x.Role 0 2))) else (some (!rng x.Role 0 2)))))) : Option Bool) = some (!head x) := by
  unfold head
  by_cases hp : rng x.Peers 1 5 = true
  ·have hpm : 0 ≤ pm x := by
    unfold rng at hp
    simp only [Bool.and_eq_true, decide_eq_true_eq] at hp
    unfold pm
    rw [wrap64 (by omega) (by omega)]; omega
   have ev : rng x.Voted (-1) (pm x) = (!(x.Voted != (-1)) || rng x.Voted 0 (pm x)) := by
    unfold rng
    by_cases hv : x.Voted = -1
    ·have : (-1 : Int) ≤ pm x := by omega
     simp [hv, this]
    ·have e1 : (x.Voted != -1) = true := by simpa using hv
     rw [e1]
     have : decide (-1 ≤ x.Voted) = decide (0 ≤ x.Voted) := by rw [decide_eq_decide]; omega
     simp [this]
   rw [hp, ev]
   cases rng x.Id 0 (pm x) <;> cases rng x.Term 0 100000 <;> cases (x.Voted != -1) <;> cases rng x.Voted 0 (pm x) <;> rfl
  ·have hp' : rng x.Peers 1 5 = false := by simpa using hp
   rw [hp']; rfl
 rw [eh]
 simp only [Option.bind_some]
 cases hh : head x <;> simp only [Bool.not_true, Bool.not_false, cond_true, cond_false]
 cases hl : (logf x.Log != 0) <;> simp only [cond_true, cond_false]
 have hlen : x.Log.n ≤ 40 := logf_len (by simpa using hl)
 have hw : IntKind.wrap .i64 ((x.Log.n : Int) + 1) = (x.Log.n : Int) + 1 := wrap64 (by omega) (by omega)
 cases decide ((lastE x.Log).Term > x.Term) <;> simp only [cond_true, cond_false]
 cases rng x.Commit 0 (x.Log.n : Int) <;> simp only [Bool.not_true, Bool.not_false, cond_true, cond_false]
 have er : ((bif (x.Role != 0) then (bif (x.Voted != x.Id) then (some true) else (some (x.Term == 0))) else (some false)) : Option Bool) = some (roleBad x) := by
  unfold roleBad
  cases (x.Role != 0) <;> cases (x.Voted != x.Id) <;> rfl
 simp only [er, hw, Option.bind_some]
 have ek : ∀ w : Int, ((bif ((x.Next.n : Int) != w) then (some true) else (some ((x.Match.n : Int) != w))) : Option Bool) = some (!(((x.Next.n : Int) == w) && ((x.Match.n : Int) == w))) := by
  intro w
  simp only [bne]
  cases ((x.Next.n : Int) == w) <;> rfl
 simp only [ek, Option.bind_some]
 have hk1 : (bif (x.Role == 2) then (bif !(((x.Next.n : Int) == x.Peers) && ((x.Match.n : Int) == x.Peers)) then (some 1) else (bif !allb x.Next.n (fun i => rng (x.Next.f i) 1 ((x.Log.n : Int) + 1)) then (some 3) else (bif !allb x.Match.n (fun i => rng (x.Match.f i) 0 (x.Log.n : Int)) then (some 3) else (bif roleBad x then (some 1) else (some 0))))) else
   (bif !(((x.Next.n : Int) == 0) && ((x.Match.n : Int) == 0)) then (some 1) else (bif !allb x.Next.n (fun i => rng (x.Next.f i) 1 ((x.Log.n : Int) + 1)) then (some 3) else (bif !allb x.Match.n (fun i => rng (x.Match.f i) 0 (x.Log.n : Int)) then (some 3) else (bif roleBad x then (some 1) else (some 0)))))) =
   ((bif !(((x.Next.n : Int) == want x) && ((x.Match.n : Int) == want x)) then some 1 else (bif !(nexts x && matchs x) then (some 3) else (bif roleBad x then (some 1) else (some 0)))) : Option Int) := by
  unfold want nexts matchs
  cases (x.Role == 2) <;> simp only [cond_true, cond_false] <;> cases allb x.Next.n (fun i => rng (x.Next.f i) 1 ((x.Log.n : Int) + 1)) <;> cases allb x.Match.n (fun i => rng (x.Match.f i) 0 (x.Log.n : Int)) <;> rfl
 rw [hk1]
 have h := L_all0 (ρ := Int) (B := fun w1 go1 => F_impl_NodeFault_B1 fu x.Votes ((x.Votes.n : Nat) : Int) x.Id x.Peers x.Term x.Voted x.Log x.Role x.Commit x.Votes x.Next x.Match ((x.Log.n : Nat) : Int) (some 1) ((bif !(((x.Next.n : Int) == want x) && ((x.Match.n : Int) == want x)) then some 1 else (bif !(nexts x && matchs x) then (some 3) else (bif roleBad x then (some 1) else (some 0)))) : Option Int) w1 go1) (fun i => (i : Int)) x.Votes.n (fun i => !rng (x.Votes.f i) 0 (pm x) || (decide (0 < i) && decide (x.Votes.f i ≤ x.Votes.f (i - 1)))) (some 1) ((bif !(((x.Next.n : Int) == want x) && ((x.Match.n : Int) == want x)) then some 1 else (bif !(nexts x && matchs x) then (some 3) else (bif roleBad x then (some 1) else (some 0)))) : Option Int)
  (fun i go hi => by
   have hxn := hx.votes
   unfold F_impl_NodeFault_B1
   simp only [Int.toNat_natCast, Int.natCast_nonneg, Int.ofNat_lt, hi, decide_true, Bool.and_self, cond_true, Option.bind_some, i_isId, wsucc (show i < 4611686018427387904 by omega)]
   show (((bif (!rng (x.Votes.f i) 0 (pm x)) then _ else _) : Option Bool).bind _) = _
   cases rng (x.Votes.f i) 0 (pm x) with
   | false => rfl
   | true =>
    simp only [Bool.not_true, cond_false, Bool.false_or]
    by_cases h0 : 0 < i
    ·have h0' : (i : Int) > 0 := by omega
     have hp : i - 1 < x.Votes.n := by omega
     simp only [h0', decide_true, cond_true, wpred h0 (show i < 4611686018427387904 by omega), Int.toNat_natCast, Int.natCast_nonneg, hp, Bool.and_self, Option.bind_some, h0, Bool.true_and]
    ·have h0' : ¬ (i : Int) > 0 := by omega
     simp only [h0', decide_false, cond_false, Option.bind_some, h0, Bool.false_and])
  (fun go => by unfold F_impl_NodeFault_B1; simp) fu (by have := hx.votes; omega)
 rw [show ((0 : Nat) : Int) = 0 from rfl] at h
 rw [h]
 have e : allb x.Votes.n (fun i => !(!rng (x.Votes.f i) 0 (pm x) || (decide (0 < i) && decide (x.Votes.f i ≤ x.Votes.f (i - 1))))) = (ids x && rise x.Votes) := by
  unfold ids rise
  rw [← allb_and]
  exact allb_congr (fun i _ => by simp)
 rw [e]
 unfold lists
 cases ids x <;> cases rise x.Votes <;> cases decide ((x.Votes.n : Int) > 0) <;> cases (x.Role != 1) <;> cases (((x.Next.n : Int) == want x) && ((x.Match.n : Int) == want x)) <;> cases (nexts x && matchs x) <;> cases roleBad x <;> rfl
end Go.Proofs.Ytjdgfkmiaikegaa.Pe

