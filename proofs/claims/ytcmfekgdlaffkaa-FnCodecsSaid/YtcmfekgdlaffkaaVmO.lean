/- The value machine: loops by their rounds. Conditions: none. -/
import Derived.Test.YtcmfekgdlaffkaaVmN
namespace Go.Proofs.Ytcmfekgdlaffkaa.Vm
open Go Go.RowKit
set_option linter.unusedVariables false
set_option linter.unusedSimpArgs false
structure Sl (α : Type) where
 z : Option Bool
 n : Nat
 f : Nat → α
variable {RT : Type} [DecidableEq RT] {den : RT → Type}
def Sl.d {τ : RT} (x : Sl (den τ)) : D RT den := .rs x.z τ x.n x.f
inductive PF (RT : Type) where
 | q | undef | nil
 | int (k : IntKind)
 | bool
 | str
 | rs (τ : RT)
 | emp (z : Bool) (τ : RT)
 | ref (o off : Nat)
 | os (o : Nat)
 | fn (f : Nat)
def PF.ty (den : RT → Type) : PF RT → Type
 | .int _ => Int
 | .bool => Bool
 | .str => ByteArray
 | .rs τ => Sl (den τ)
 | .os _ => Nat
 | _ => Unit
def PF.pack : (p : PF RT) → p.ty den → D RT den
 | .q, _ => .q
 | .undef, _ => .undef
 | .nil, _ => .nil
 | .int k, v => .int k v
 | .bool, v => .bool v
 | .str, v => .str v
 | .rs τ, v => Sl.d (τ := τ) v
 | .emp z τ, _ => .emp z τ
 | .ref o off, _ => .ref o off
 | .os o, v => .os o v
 | .fn f, _ => .fn f []
def PF.un : (p : PF RT) → (d : D RT den) → Option { v : p.ty den // p.pack v = d }
 | .q, .q => some ⟨(), rfl⟩
 | .undef, .undef => some ⟨(), rfl⟩
 | .nil, .nil => some ⟨(), rfl⟩
 | .int k, .int k' n => if h : k = k' then some ⟨n, by subst h; rfl⟩ else none
 | .bool, .bool b => some ⟨b, rfl⟩
 | .str, .str b => some ⟨b, rfl⟩
 | .rs τ, .rs z τ' n f => if h : τ' = τ then some ⟨⟨z, n, h ▸ f⟩, by subst h; rfl⟩ else none
 | .emp z τ, .emp z' τ' => if h : z = z' ∧ τ = τ' then some ⟨(), by rw [h.1, h.2]; rfl⟩ else none
 | .ref o off, .ref o' off' => if h : o = o' ∧ off = off' then some ⟨(), by rw [h.1, h.2]; rfl⟩ else none
 | .os o, .os o' n => if h : o = o' then some ⟨n, by subst h; rfl⟩ else none
 | .fn f, .fn f' [] => if h : f = f' then some ⟨(), by rw [h]; rfl⟩ else none
 | _, _ => none
def PFs.ty (den : RT → Type) : List (PF RT) → Type
 | [] => Unit
 | p :: l => p.ty den × PFs.ty den l
def PFs.pack : (l : List (PF RT)) → PFs.ty den l → List (D RT den)
 | [], _ => []
 | p :: l, v => p.pack v.1 :: PFs.pack l v.2
def PFs.un : (l : List (PF RT)) → (ds : List (D RT den)) → Option { v : PFs.ty den l // PFs.pack l v = ds }
 | [], [] => some ⟨(), rfl⟩
 | p :: l, d :: ds => (p.un d).bind fun x => (PFs.un l ds).bind fun y => some ⟨(x.1, y.1), by simp only [PFs.pack, x.2, y.2]⟩
 | _, _ => none
inductive Pat1 (RT : Type) where
 | flat (p : PF RT)
 | agg (l : List (PF RT))
 | rptr (l : List (PF RT))
 | rrptr (l : List (PF RT))
def Pat1.ty (den : RT → Type) : Pat1 RT → Type
 | .flat p => p.ty den
 | .agg l | .rptr l | .rrptr l => PFs.ty den l
def Pat1.pack : (p : Pat1 RT) → p.ty den → D RT den
 | .flat p, v => p.pack v
 | .agg l, v => .agg (PFs.pack l v)
 | .rptr l, v => .rptr (PFs.pack l v)
 | .rrptr l, v => .rptr [.rptr (PFs.pack l v)]
def Pat1.un : (p : Pat1 RT) → (d : D RT den) → Option { v : p.ty den // p.pack v = d }
 | .flat p, d => p.un d
 | .agg l, .agg cs => (PFs.un l cs).bind fun x => some ⟨x.1, by simp only [Pat1.pack, x.2]⟩
 | .rptr l, .rptr cs => (PFs.un l cs).bind fun x => some ⟨x.1, by simp only [Pat1.pack, x.2]⟩
 | .rrptr l, .rptr [.rptr cs] => (PFs.un l cs).bind fun x => some ⟨x.1, by simp only [Pat1.pack, x.2]⟩
 | _, _ => none
def Pat1s.ty (den : RT → Type) : List (Pat1 RT) → Type
 | [] => Unit
 | p :: l => p.ty den × Pat1s.ty den l
def Pat1s.pack : (l : List (Pat1 RT)) → Pat1s.ty den l → List (D RT den)
 | [], _ => []
 | p :: l, v => p.pack v.1 :: Pat1s.pack l v.2
def Pat1s.un : (l : List (Pat1 RT)) → (ds : List (D RT den)) → Option { v : Pat1s.ty den l // Pat1s.pack l v = ds }
 | [], [] => some ⟨(), rfl⟩
 | p :: l, d :: ds => (p.un d).bind fun x => (Pat1s.un l ds).bind fun y => some ⟨(x.1, y.1), by simp only [Pat1s.pack, x.2, y.2]⟩
 | _, _ => none
inductive Pat (RT : Type) where
 | flat (p : PF RT)
 | agg (l : List (PF RT))
 | rptr (l : List (PF RT))
 | rrptr (l : List (PF RT))
 | fn (f : Nat) (l : List (Pat1 RT))
 | tup (l : List (Pat1 RT))
def Pat.ty (den : RT → Type) : Pat RT → Type
 | .flat p => p.ty den
 | .agg l | .rptr l | .rrptr l => PFs.ty den l
 | .fn _ l => Pat1s.ty den l
 | .tup l => Pat1s.ty den l
def Pat.pack : (p : Pat RT) → p.ty den → D RT den
 | .flat p, v => p.pack v
 | .agg l, v => .agg (PFs.pack l v)
 | .rptr l, v => .rptr (PFs.pack l v)
 | .rrptr l, v => .rptr [.rptr (PFs.pack l v)]
 | .fn f l, v => .fn f (Pat1s.pack l v)
 | .tup l, v => .tup (Pat1s.pack l v)
def Pat.un : (p : Pat RT) → (d : D RT den) → Option { v : p.ty den // p.pack v = d }
 | .flat p, d => p.un d
 | .agg l, .agg cs => (PFs.un l cs).bind fun x => some ⟨x.1, by simp only [Pat.pack, x.2]⟩
 | .rptr l, .rptr cs => (PFs.un l cs).bind fun x => some ⟨x.1, by simp only [Pat.pack, x.2]⟩
 | .rrptr l, .rptr [.rptr cs] => (PFs.un l cs).bind fun x => some ⟨x.1, by simp only [Pat.pack, x.2]⟩
 | .fn f l, .fn f' cap => if h : f = f' then (Pat1s.un l cap).bind fun x => some ⟨x.1, by subst h; simp only [Pat.pack, x.2]⟩ else none
 | .tup l, .tup ds => (Pat1s.un l ds).bind fun x => some ⟨x.1, by simp only [Pat.pack, x.2]⟩
 | _, _ => none
def Pats.ty (den : RT → Type) : List (Pat RT) → Type
 | [] => Unit
 | p :: l => p.ty den × Pats.ty den l
def Pats.pack : (l : List (Pat RT)) → Pats.ty den l → List (D RT den)
 | [], _ => []
 | p :: l, v => p.pack v.1 :: Pats.pack l v.2
def Pats.un : (l : List (Pat RT)) → (ds : List (D RT den)) → Option { v : Pats.ty den l // Pats.pack l v = ds }
 | [], [] => some ⟨(), rfl⟩
 | p :: l, d :: ds => (p.un d).bind fun x => (Pats.un l ds).bind fun y => some ⟨(x.1, y.1), by simp only [Pats.pack, x.2, y.2]⟩
 | _, _ => none
inductive OP (RT : Type) where
 | box (b : Bool) (l : List (PF RT))
 | row (l : Bool) (τ : RT)
 | deep (l : Bool) (τ : RT)
 | gone
def OP.ty (den : RT → Type) : OP RT → Type
 | .box _ l => PFs.ty den l
 | .row _ τ => Nat × (Nat → den τ)
 | .deep _ τ => Nat × (Nat × (Nat → den τ))
 | .gone => Unit
def OP.pack : (p : OP RT) → p.ty den → Ob RT den
 | .box b l, v => .box b (PFs.pack l v)
 | .row l τ, v => .row l τ v.1 v.2
 | .deep l τ, v => .deep l τ v.1 v.2.1 v.2.2
 | .gone, _ => .gone
def OP.un : (p : OP RT) → (d : Ob RT den) → Option { v : p.ty den // p.pack v = d }
 | .box b l, .box b' cs => if h : b' = b then (PFs.un l cs).bind fun x => some ⟨x.1, by subst h; simp only [OP.pack, x.2]⟩ else none
 | .row l τ, .row l' τ' n f => if h : l' = l ∧ τ' = τ then some ⟨(n, h.2 ▸ f), by obtain ⟨rfl, rfl⟩ := h; rfl⟩ else none
 | .deep l τ, .deep l' τ' n p f => if h : l' = l ∧ τ' = τ then some ⟨(n, p, h.2 ▸ f), by obtain ⟨rfl, rfl⟩ := h; rfl⟩ else none
 | .gone, .gone => some ⟨(), rfl⟩
 | _, _ => none
def OPs.ty (den : RT → Type) : List (OP RT) → Type
 | [] => Unit
 | p :: l => p.ty den × OPs.ty den l
def OPs.pack : (l : List (OP RT)) → OPs.ty den l → List (Ob RT den)
 | [], _ => []
 | p :: l, v => p.pack v.1 :: OPs.pack l v.2
def OPs.un : (l : List (OP RT)) → (ds : List (Ob RT den)) → Option { v : OPs.ty den l // OPs.pack l v = ds }
 | [], [] => some ⟨(), rfl⟩
 | p :: l, d :: ds => (p.un d).bind fun x => (OPs.un l ds).bind fun y => some ⟨(x.1, y.1), by simp only [OPs.pack, x.2, y.2]⟩
 | _, _ => none
def Raw (den : RT → Type) (ps : List (Pat RT)) (os : List (OP RT)) : Type := Pats.ty den ps × OPs.ty den os
def packSt (ps : List (Pat RT)) (os : List (OP RT)) (v : Raw den ps os) : St RT den := ⟨Pats.pack ps v.1, OPs.pack os v.2⟩
def unSt (ps : List (Pat RT)) (os : List (OP RT)) (s : St RT den) : Option { v : Raw den ps os // packSt ps os v = s } :=
 (Pats.un ps s.slots).bind fun x => (OPs.un os s.objs).bind fun y => some ⟨(x.1, y.1), by simp only [packSt, x.2, y.2]⟩
theorem outM {ρ : Type} {ps : List (Pat RT)} {os : List (OP RT)} {conv : Raw den ps os → ρ} {enc : ρ → D RT den × List (Ob RT den)} (hc : ∀ raw, packSt ps os raw = ⟨[(enc (conv raw)).1], (enc (conv raw)).2⟩) {d : D RT den} {os' : List (Ob RT den)} {y : ρ}
  (h : ((unSt ps os ⟨[d], os'⟩).bind fun v => some (conv v.1)) = some y) : d = (enc y).1 ∧ os' = (enc y).2 := by
 simp only [Option.bind_eq_some_iff, Option.some.injEq] at h
 obtain ⟨⟨v, hv⟩, _, rfl⟩ := h
 have := (hc v).symm.trans hv
 simp only [St.mk.injEq, List.cons.injEq, and_true] at this
 exact ⟨this.1.symm, this.2.symm⟩
theorem outU {ρ : Type} {ps : List (Pat RT)} {os : List (OP RT)} {conv : Raw den ps os → ρ} {enc : ρ → D RT den × List (Ob RT den)} {chk : Raw den ps os → Bool} (hc : ∀ raw, chk raw = true → packSt ps os raw = ⟨[(enc (conv raw)).1], (enc (conv raw)).2⟩) {d : D RT den} {os' : List (Ob RT den)} {y : ρ}
  (h : ((unSt ps os ⟨[d], os'⟩).bind fun v => bif chk v.1 then some (conv v.1) else none) = some y) : d = (enc y).1 ∧ os' = (enc y).2 := by
 simp only [Option.bind_eq_some_iff] at h
 obtain ⟨⟨v, hv⟩, _, h⟩ := h
 dsimp only at h
 cases hk : chk v with
 | false => rw [hk] at h; cases h
 | true =>
  rw [hk] at h
  have := Option.some.inj h; subst this
  have := (hc v hk).symm.trans hv
  simp only [St.mk.injEq, List.cons.injEq, and_true] at this
  exact ⟨this.1.symm, this.2.symm⟩
def L {ρ V : Type} (B : V → (V → Option ρ) → Option ρ) : Nat → V → Option ρ
 | 0, _ => none
 | n + 1, v => B v (L B n)
def after {ρ : Type} (m m2 : List Nat) (n0 : Nat) (it : St RT den → Option ρ) (k : Ex → St RT den → Option ρ) (e : Ex) (s : St RT den) : Option ρ :=
 match e with
 | .normal => ((s.mask m).cut n0).bind it
 | e => k e (s.mask m2)
def handle {ρ C W : Type} (ps : List (Pat RT)) (os : List (OP RT)) (conv : Raw den ps os → C × W) (B : C → (Ex → St RT den → Option ρ) → W → (W → Option ρ) → Option ρ) (fu : Nat) (s : St RT den) (k : Ex → St RT den → Option ρ) : Option ρ :=
 match unSt ps os s with
 | some v => L (B (conv v.1).1 k) fu (conv v.1).2
 | none => none
theorem handle_ok {ρ C W : Type} {m m2 : List Nat} {step : St RT den → (Ex → St RT den → Option ρ) → Option ρ} {ps : List (Pat RT)} {os : List (OP RT)} {conv : Raw den ps os → C × W} {B : C → (Ex → St RT den → Option ρ) → W → (W → Option ρ) → Option ρ} {fu : Nat}
  (back : C → W → St RT den) (hback : ∀ raw, packSt ps os raw = back (conv raw).1 (conv raw).2) (n0 : Nat) (hn0 : ∀ c w, (back c w).objs.length = n0)
  (hB : ∀ (it : St RT den → Option ρ) (k : Ex → St RT den → Option ρ) (c : C) (w : W), step (back c w) (after m m2 n0 it k) = B c k w (fun w => it (back c w))) :
  ∀ s k r, handle ps os conv B fu s k = some r → ∃ fuel, iter m m2 s.objs.length step fuel s k = some r := by
 intro s k r h
 unfold handle at h
 split at h
 ·rename_i v hv
  obtain ⟨raw, hraw⟩ := v
  dsimp only at h
  refine ⟨fu, ?_⟩
  have hs : s = back (conv raw).1 (conv raw).2 := by rw [← hback, hraw]
  rw [hs, hn0]
  rw [← h]
  generalize (conv raw).1 = c
  generalize (conv raw).2 = w
  clear h hs hv hraw
  induction fu generalizing w with
  | zero => rfl
  | succ n ih =>
   simp only [L]
   rw [show iter m m2 n0 step (n + 1) (back c w) k = step (back c w) (after m m2 n0 (fun s' => iter m m2 n0 step n s' k) k) from by
    simp only [iter]; congr]
   rw [hB]
   congr 1
   funext w'
   exact ih w'
 ·simp at h
def GoodXD (E : Env RT den) (P : Program) (dp gv : Bool) (f : Nat) (xs : List (D RT den)) (ins : List (Ob RT den)) (r : D RT den) (outs : List (Ob RT den)) : Prop :=
 match gv, dp with
 | true, _ => GoodG E P f xs ins r outs
 | false, false => GoodX E P f xs ins r outs
 | false, true => GoodD E P f xs ins r outs
omit [DecidableEq RT] in
theorem pc_good {E : Env RT den} {P : Program} {pc : Pc RT den} (h : ∀ f xs o, pc.fn f xs = some o → ∀ y, o.x = some y → Good E P f xs (o.g y))
  (hx : ∀ f xs ins o, pc.fx f xs ins = some o → ∀ y, o.x = some y → GoodXD E P (pc.dp f) (pc.gv f) f xs ins (o.g y).1 (o.g y).2) : PrOk E P pc.run := by
 have key : ∀ f xs ins x, pc.run.fx f xs ins = some x → GoodXD E P (pc.dp f) (pc.gv f) f xs ins x.1 x.2 := by
  intro f xs ins x hr
  simp only [Pc.run, Option.bind_eq_some_iff] at hr
  obtain ⟨o, ho, hr⟩ := hr
  simp only [OutX.run, Option.bind_eq_some_iff] at hr
  obtain ⟨y, hy, hr⟩ := hr
  have hr := Option.some.inj hr; subst hr
  exact hx f xs ins o ho y hy
 refine ⟨fun f xs r hr => ?_, fun f xs ins x hg hd hr => ?_, fun f xs ins x hg hd hr => ?_, fun f xs ins x hg hr => ?_⟩
 ·simp only [Pc.run, Option.bind_eq_some_iff] at hr
  obtain ⟨o, ho, hr⟩ := hr
  simp only [Out.run, Option.bind_eq_some_iff] at hr
  obtain ⟨y, hy, hr⟩ := hr
  cases hq : o.ok (o.g y) with
  | false => rw [hq] at hr; simp at hr
  | true =>
   rw [hq] at hr
   have hr := Option.some.inj hr; subst hr
   exact h f xs o ho y hy
 ·have := key f xs ins x hr
  have hd : pc.dp f = false := hd
  have hg : pc.gv f = false := hg
  rw [hd, hg] at this
  exact this
 ·have := key f xs ins x hr
  have hd : pc.dp f = true := hd
  have hg : pc.gv f = false := hg
  rw [hd, hg] at this
  exact this
 ·have := key f xs ins x hr
  have hg : pc.gv f = true := hg
  rw [hg] at this
  exact this
theorem loop_all {Q : Nat × Code → Prop} {l : List (Nat × Code)} (n : Nat) (hn : l.length = n) (h : ∀ i, i < n → Q (l.getD i (0, .skip))) : ∀ p ∈ l, Q p := by
 intro p hp
 obtain ⟨i, hi, rfl⟩ := List.getElem_of_mem hp
 have := h i (by omega)
 rwa [List.getD_eq_getElem?_getD, List.getElem?_eq_getElem hi] at this
omit [DecidableEq RT] in
theorem rt_of {tbl : List (Nat × TI)} {rtl : List (Nat × RT)} {size : RT → Nat} (h : (rtl.all fun x => (tbl.lookup x.1).map TI.sz == some (size x.2)) = true) : ∀ t τ n, rtl.lookup t = some τ → (tbl.lookup t).map TI.sz = some n → size τ = n := by
 intro t τ n ht hn
 rw [List.all_eq_true] at h
 have := h _ (lookup_mem' ht)
 simp only [hn, beq_iff_eq, Option.some.injEq] at this
 exact this.symm
def outG (E : Env RT den) (τ : RT) (d : D RT den) (os : List (Ob RT den)) : Option (Nat × Nat × (Nat → den τ)) := match d, os with
 | .os 0 n, [.row false τ' m g] => (match E.deq τ' τ with | .isTrue h => some (n, m, h ▸ g) | .isFalse _ => none)
 | _, _ => none
omit [DecidableEq RT] in
theorem outG_enc {E : Env RT den} {τ : RT} {d : D RT den} {os : List (Ob RT den)} {y : Nat × Nat × (Nat → den τ)} (h : outG E τ d os = some y) : d = .os 0 y.1 ∧ os = [.row false τ y.2.1 y.2.2] := by
 unfold outG at h
 split at h
 ·split at h
  ·rename_i hq _
   subst hq
   have h := Option.some.inj h; subst h
   exact ⟨rfl, rfl⟩
  ·cases h
 ·cases h
def e5 {a0 a1 a2 a3 a4 z : Type} (c : a0 × a1 × a2 × a3 × a4 × z) : z := c.2.2.2.2.2
def e10 {a0 a1 a2 a3 a4 a5 a6 a7 a8 a9 z : Type} (c : a0 × a1 × a2 × a3 × a4 × a5 × a6 × a7 × a8 × a9 × z) : z := e5 (e5 c)
def e20 {a0 a1 a2 a3 a4 a5 a6 a7 a8 a9 a10 a11 a12 a13 a14 a15 a16 a17 a18 a19 z : Type} (c : a0 × a1 × a2 × a3 × a4 × a5 × a6 × a7 × a8 × a9 × a10 × a11 × a12 × a13 × a14 × a15 × a16 × a17 × a18 × a19 × z) : z := e10 (e10 c)
def e40 {a0 a1 a2 a3 a4 a5 a6 a7 a8 a9 a10 a11 a12 a13 a14 a15 a16 a17 a18 a19 a20 a21 a22 a23 a24 a25 a26 a27 a28 a29 a30 a31 a32 a33 a34 a35 a36 a37 a38 a39 z : Type} (c : a0 × a1 × a2 × a3 × a4 × a5 × a6 × a7 × a8 × a9 × a10 × a11 × a12 × a13 × a14 × a15 × a16 × a17 × a18 × a19 × a20 × a21 × a22 × a23 × a24 × a25 × a26 × a27 × a28 × a29 × a30 × a31 × a32 × a33 × a34 × a35 × a36 × a37 × a38 × a39 × z) : z := e20 (e20 c)
def qs : Nat → List (D RT den) → List (D RT den)
 | 0, l => l
 | n + 1, l => .q :: qs n l
def fq : Nat → List (Pat RT) → List (Pat RT)
 | 0, l => l
 | n + 1, l => .flat .q :: fq n l
def rg : Nat → Nat → List Nat → List Nat
 | _, 0, l => l
 | a, n + 1, l => a :: rg (a + 1) n l
abbrev ii (x : Int) : D RT den := .int .i64 x
def HpcOk (E : Env RT den) (P : Program) (pcf : Nat → List (D RT den) → Option (Out RT den)) : Prop := ∀ f xs o, pcf f xs = some o → ∀ y, o.x = some y → Good E P f xs (o.g y)
def HpxOk (E : Env RT den) (P : Program) (pcd pcg : Nat → Bool) (pcx : Nat → List (D RT den) → List (Ob RT den) → Option (OutX RT den)) : Prop := ∀ f xs ins o, pcx f xs ins = some o → ∀ y, o.x = some y → GoodXD E P (pcd f) (pcg f) f xs ins (o.g y).1 (o.g y).2
def GoodS (E : Env RT den) (P : Program) (n : Nat) (S : List (D RT den) → Option (Out RT den)) : Prop := ∀ xs o, S xs = some o → ∀ y, o.x = some y → Good E P n xs (o.g y)
def GoodSX (E : Env RT den) (P : Program) (n : Nat) (S : List (D RT den) → List (Ob RT den) → Option (OutX RT den)) : Prop := ∀ xs ins o, S xs ins = some o → ∀ y, o.x = some y → GoodX E P n xs ins (o.g y).1 (o.g y).2
def GoodSD (E : Env RT den) (P : Program) (n : Nat) (S : List (D RT den) → List (Ob RT den) → Option (OutX RT den)) : Prop := ∀ xs ins o, S xs ins = some o → ∀ y, o.x = some y → GoodD E P n xs ins (o.g y).1 (o.g y).2
def LpAt {ρ : Type} (E : Env RT den) (pc : Pc RT den) (msk : Nat → List Nat) (lp : Lp RT den ρ) (b b1 b2 d : Nat) (lc : Code) : Prop := ∀ s k r, lp.lp b s k = some r → ∃ fuel, iter (msk b1) (msk b2) s.objs.length (evCode E pc msk lp d lc) fuel s k = some r
def RoundOk {ρ C W : Type} (E : Env RT den) (pc : Pc RT den) (msk : Nat → List Nat) (lp : Lp RT den ρ) (d : Nat) (lc : Code) (back : C → W → St RT den) (b1 b2 n0 : Nat) (B : C → (Ex → St RT den → Option ρ) → W → (W → Option ρ) → Option ρ) : Prop :=
 ∀ (it : St RT den → Option ρ) (k : Ex → St RT den → Option ρ) c w, evCode E pc msk lp d lc (back c w) (after (msk b1) (msk b2) n0 it k) = B c k w (fun w => it (back c w))
end Go.Proofs.Ytcmfekgdlaffkaa.Vm

