
/- The value machine: Go's functions run on values told without addresses (definitions only). Conditions: none. -/
import Derived.Calls
import Derived.Orders
namespace Go.Proofs.Ytcmfekgdlaffkaa.Vm
open Go
set_option linter.unusedVariables false
set_option linter.unusedSimpArgs false
inductive D (RT : Type) (den : RT → Type) where
 | int (k : IntKind) (n : Int)
 | bool (b : Bool)
 | str (s : ByteArray)
 | undef
 | q
 | nil
 | ref (o off : Nat)
 | eref (o sz j off : Nat)
 | rptr (cs : List (D RT den))
 | rs (z : Option Bool) (τ : RT) (n : Nat) (f : Nat → den τ)
 | emp (z : Bool) (τ : RT)
 | os (o len : Nat)
 | osn (o i j len : Nat)
 | osp (o sz off len : Nat)
 | lit (τ : RT) (cs : List (D RT den))
 | fn (f : Nat) (cap : List (D RT den))
 | agg (cs : List (D RT den))
 | tup (ds : List (D RT den))
variable {RT : Type} {den : RT → Type}
instance : Inhabited (D RT den) := ⟨.q⟩
def D.cells : D RT den → List (D RT den)
 | .agg cs => cs
 | d => [d]
def D.flat : D RT den → Bool
 | .agg _ | .tup _ | .undef | .q => false
 | _ => true
def D.fl2 : D RT den → Bool
 | .fn .. | .lit .. => false
 | d => d.flat
def D.sp : D RT den → Bool
 | .int .. | .bool _ | .str _ | .nil | .rs .. | .emp .. | .rptr _ => true
 | _ => false
def D.spc : D RT den → Bool
 | .agg cs => cs.all D.sp
 | d => d.sp
def D.pure : D RT den → Bool
 | .int .. | .bool _ | .str _ | .nil | .rs .. | .emp .. | .rptr _ => true
 | .fn _ cap => cap.all D.spc
 | _ => false
def D.pures : D RT den → Bool
 | .agg cs => cs.all D.pure
 | .tup ds => ds.all fun d => match d with | .agg cs => cs.all D.pure | d => d.pure
 | d => d.pure
def D.sce : D RT den → Bool
 | .int .. | .bool _ | .str _ | .emp .. => true
 | _ => false
def D.sc : D RT den → Bool
 | .int .. | .bool _ | .str _ => true
 | _ => false
def D.scalar : D RT den → Bool
 | .agg cs => cs.all D.sc
 | .tup ds => ds.all fun d => match d with | .agg cs => cs.all D.sc | d => d.sc
 | d => d.sc
inductive Ob (RT : Type) (den : RT → Type) where
 | box (l : Bool) (cs : List (D RT den))
 | row (l : Bool) (τ : RT) (n : Nat) (f : Nat → den τ)
 | deep (l : Bool) (τ : RT) (n p : Nat) (f : Nat → den τ)
 | gone
instance : Inhabited (Ob RT den) := ⟨.gone⟩
structure Rows (RT : Type) (den : RT → Type) where
 rt : Nat → Option RT
 size : RT → Nat
 cells : (τ : RT) → den τ → List (D RT den)
 dec : (τ : RT) → List (D RT den) → Option (den τ)
 deq : (τ τ' : RT) → Decidable (τ = τ')
 dflt : (τ : RT) → den τ
 zero : Nat → Option (List (D RT den))
 scl : RT → Bool
 nilE : RT → Bool
 byt : RT → Bool
 lit1 : RT → Bool
structure Env (RT : Type) (den : RT → Type) extends Rows RT den where
 fn : Nat → Option Func
 agg : Nat → Option Bool
 sz : Nat → Option Nat
 bytes : Nat → Option Nat
 elem : Nat → Option Nat
 fld : Nat → Nat → Option (Nat × Nat)
 str : Nat → Bool
 eqok : Nat → Option (List Bool)
 eqb : Nat → Bool
 ik : Nat → Option IntKind
 est : Nat → Bool
 par : Nat → List Nat
 tab : Nat → Option (Array Value)
structure St (RT : Type) (den : RT → Type) where
 slots : List (D RT den)
 objs : List (Ob RT den)
def ofValue (τ : Option RT) : Value → D RT den
 | .int k n => .int k n
 | .bool b => .bool b
 | .string s => .str s
 | .slice none 0 0 => match τ with | some τ => .emp true τ | none => .q
 | .pointer none => .nil
 | _ => .q
def St.get (s : St RT den) (t : Nat) : D RT den := s.slots.getD t .undef
def St.put (s : St RT den) (d : Option Nat) (v : D RT den) : St RT den := match d with | some d => { s with slots := s.slots.set d v } | none => s
def Env.ev (E : Env RT den) (s : St RT den) (t : Nat) : Operand → D RT den
 | .tmp i => s.get i
 | .const v => ofValue ((E.elem t).bind E.rt) v
 | .func f => .fn f []
 | .global _ => .q
def one : List (D RT den) → Option (D RT den)
 | [c] => some c
 | _ => none
def ofCells (agg : Bool) (cs : List (D RT den)) : Option (D RT den) := bif agg then some (.agg cs) else one cs
def sub (cs : List (D RT den)) (off n : Nat) : Option (List (D RT den)) := if off + n ≤ cs.length then some ((cs.drop off).take n) else none
def put (cs : List (D RT den)) (off : Nat) (new : List (D RT den)) : Option (List (D RT den)) :=
 if off + new.length ≤ cs.length then some (cs.take off ++ new ++ cs.drop (off + new.length)) else none
def obj (os : List (Ob RT den)) (o : Nat) : Ob RT den := os.getD o .gone
def cellsAt (E : Env RT den) (os : List (Ob RT den)) : D RT den → Option (List (D RT den))
 | .ref o off => match obj os o with | .box _ cs => bif Nat.blt off cs.length then some (cs.drop off) else none | _ => none
 | .rptr cs => some cs
 | .eref o sz j off => match obj os o with | .row _ τ n f => if E.size τ = sz then some ((E.cells τ (f j)).drop off) else none | _ => none
 | _ => none
def load (E : Env RT den) (os : List (Ob RT den)) (t : Nat) (p : D RT den) : Option (D RT den) :=
 (cellsAt E os p).bind fun cs => (E.sz t).bind fun n => (sub cs 0 n).bind fun cs => (E.agg t).bind fun g => ofCells g cs
def bitsAnd (k : IntKind) (a b : Int) : Int := k.wrap (BitVec.ofInt k.bits a &&& BitVec.ofInt k.bits b).toNat
def bitsOr (k : IntKind) (a b : Int) : Int := k.wrap (BitVec.ofInt k.bits a ||| BitVec.ofInt k.bits b).toNat
def bitsXor (k : IntKind) (a b : Int) : Int := k.wrap (BitVec.ofInt k.bits a ^^^ BitVec.ofInt k.bits b).toNat
def shlInt (k : IntKind) (a b : Int) : Int := k.wrap (a * 2 ^ (min b.toNat k.bits))
def shrInt (k : IntKind) (a b : Int) : Int := a.fdiv (2 ^ (min b.toNat k.bits))
def intOp (op : BinOp) (k : IntKind) (a b : Int) : Option (D RT den) :=
 match op with
 | .add => some (.int k (k.wrap (a + b)))
 | .sub => some (.int k (k.wrap (a - b)))
 | .mul => some (.int k (k.wrap (a * b)))
 | .quo => if b = 0 then none else some (.int k (k.wrap (a.tdiv b)))
 | .rem => if b = 0 then none else some (.int k (a.tmod b))
 | .eql => some (.bool (a == b))
 | .neq => some (.bool (a != b))
 | .lss => some (.bool (decide (a < b)))
 | .leq => some (.bool (decide (a ≤ b)))
 | .gtr => some (.bool (decide (a > b)))
 | .geq => some (.bool (decide (a ≥ b)))
 | .and => some (.int k (bitsAnd k a b))
 | .or => some (.int k (bitsOr k a b))
 | .xor => some (.int k (bitsXor k a b))
 | _ => none
def eqSc (k : Bool) : D RT den → D RT den → Option Bool
 | .int k1 a, .int k2 b => bif k then (if k1 = k2 then some (a == b) else none) else none
 | .bool a, .bool b => bif k then none else some (a == b)
 | _, _ => none
def eqCells : List Bool → List (D RT den) → List (D RT den) → Option Bool
 | [], [], [] => some true
 | k :: ks, a :: l, b :: m => (eqSc k a b).bind fun x => (eqCells ks l m).bind fun y => some (x && y)
 | _, _, _ => none
def binOp (E : Env RT den) (op : BinOp) (t : Nat) : D RT den → D RT den → Option (D RT den)
 | .int k a, .int k' b => if k = k' then intOp op k a b else none
 | .bool a, .bool b => bif E.eqb t then (match op with | .eql => some (.bool (a == b)) | .neq => some (.bool (!(a == b))) | _ => none) else none
 | .str a, .str b => bif E.est t then (match op with | .eql => some (.bool (a.toList == b.toList)) | .neq => some (.bool (!(a.toList == b.toList))) | .add => bif decide (a.size + b.size ≤ 9223372036854775807) then some (.str (a ++ b)) else none | _ => none) else none
 | .rs z _ _ _, .emp true _ => (E.elem t).bind fun _ => match op with | .eql => z.bind fun b => some (.bool b) | .neq => z.bind fun b => some (.bool (!b)) | _ => none
 | .emp z _, .emp true _ => (E.elem t).bind fun _ => match op with | .eql => some (.bool z) | .neq => some (.bool (!z)) | _ => none
 | .agg a, .agg b => (E.eqok t).bind fun ks => match op with | .eql => (eqCells ks a b).bind fun x => some (.bool x) | .neq => (eqCells ks a b).bind fun x => some (.bool (!x)) | _ => none
 | _, _ => none
def shift (op : BinOp) : D RT den → D RT den → Option (Bool × D RT den)
 | .int k a, .int _ b => match op with | .shl => some (decide (0 ≤ b), .int k (shlInt k a b)) | .shr => some (decide (0 ≤ b), .int k (shrInt k a b)) | _ => none
 | _, _ => none
def minInt (a b : Int) : Int := bif decide (b < a) then b else a
def maxInt (a b : Int) : Int := bif decide (b > a) then b else a
def least (f : Int → Int → Int) (k : IntKind) : Int → List (D RT den) → Option (D RT den)
 | a, [] => some (.int k a)
 | a, .int k' b :: l => if k = k' then least f k (f a b) l else none
 | _, _ => none
def leasts (f : Int → Int → Int) : List (D RT den) → Option (D RT den)
 | .int k a :: l => least f k a l
 | _ => none
def cutOf (E : Env RT den) (q : Bool) (sz : Nat) (x lo hi : D RT den) : Option (Bool × D RT den) :=
 match x, lo, hi with
 | .rs z τ n f, .int _ l, .int _ h => if sz = E.size τ then some (decide (0 ≤ l) && (decide (l ≤ h) && decide (h.toNat ≤ n)), .rs z τ (h.toNat - l.toNat) fun i => f (l.toNat + i)) else none
 | .emp z τ, .int _ l, .int _ h => some (decide (0 ≤ l) && (decide (l ≤ h) && decide (h.toNat ≤ 0)), .emp z τ)
 | .os o n, .int _ l, .int _ h => bif q then some (decide (0 ≤ l) && (decide (l ≤ h) && decide (h.toNat ≤ n)), .osp o sz l.toNat (h.toNat - l.toNat)) else if l = 0 then some (decide (0 ≤ h) && decide (h.toNat ≤ n), .os o h.toNat) else none
 | _, _, _ => none
def isTold : Option Operand → Bool
 | some (.tmp _) => true
 | some (.const (.int _ n)) => !(n == 0)
 | _ => false
def unOp (op : UnOp) : D RT den → Option (D RT den)
 | .bool b => match op with | .not => some (.bool (!b)) | _ => none
 | .int k n => match op with | .neg => some (.int k (k.wrap (0 - n))) | _ => none
 | _ => none
def lenOf : D RT den → Option Nat
 | .rs _ _ n _ => some n
 | .emp .. => some 0
 | .os _ len => some len
 | .osp _ _ _ len => some len
 | _ => none
def D.nm (n : Nat) : D RT den → Bool
 | .ref o _ | .eref o _ _ _ | .os o _ | .osn o _ _ _ | .osp o _ _ _ => decide (n ≤ o)
 | .fn _ [] => false
 | .fn .. | .agg _ | .tup _ | .lit .. => true
 | _ => false
def D.nmc (n : Nat) : D RT den → Bool
 | .agg cs => cs.any (D.nm n)
 | d => d.nm n
def D.names (n : Nat) : D RT den → Bool
 | .ref o _ | .eref o _ _ _ | .os o _ | .osn o _ _ _ | .osp o _ _ _ => decide (n ≤ o)
 | .fn _ cap => cap.any (D.nmc n)
 | .agg cs | .lit _ cs => cs.any (D.nm n)
 | .tup ds => !ds.isEmpty
 | _ => false
def D.nx (n : Nat) : D RT den → Bool
 | .ref o _ | .eref o _ _ _ | .os o _ | .osn o _ _ _ | .osp o _ _ _ => decide (n = o)
 | .fn _ [] => false
 | .fn .. | .agg _ | .tup _ | .lit .. => true
 | _ => false
def D.nxc (n : Nat) : D RT den → Bool
 | .agg cs => cs.any (D.nx n)
 | d => d.nx n
def D.nxs (n : Nat) : D RT den → Bool
 | .ref o _ | .eref o _ _ _ | .os o _ | .osn o _ _ _ | .osp o _ _ _ => decide (n = o)
 | .fn _ cap => cap.any (D.nxc n)
 | .agg cs | .lit _ cs => cs.any (D.nx n)
 | .tup ds => !ds.isEmpty
 | _ => false
def D.isO : D RT den → Bool
 | .ref .. | .eref .. | .os .. | .osn .. | .osp .. => true
 | _ => false
def clear (o : Nat) (os : List (Ob RT den)) : Bool := os.all fun ob => match ob with | .box _ cs => cs.all (fun d => !d.nx o || d.isO) | _ => true
def D.kill1 (o : Nat) (d : D RT den) : D RT den := bif d.isO && d.nx o then .q else d
def Ob.kill (o : Nat) : Ob RT den → Ob RT den
 | .box l cs => .box l (cs.map (D.kill1 o))
 | ob => ob
def St.kill (s : St RT den) : Option Nat → St RT den
 | none => s
 | some o => { s with slots := s.slots.map fun d => bif d.nxs o then .q else d }
def norm (E : Env RT den) : D RT den → D RT den
 | .emp z τ => .rs (some z) τ 0 fun _ => E.dflt τ
 | d => d
def nrm (E : Env RT den) (τ : RT) (d : D RT den) : D RT den := bif E.nilE τ then d else norm E d
def snapFlat (E : Env RT den) (os : List (Ob RT den)) : D RT den → Option (D RT den)
 | .os o len => match obj os o with | .row _ τ n f => some (.rs none τ len f) | .deep _ τ n p f => some (.rs none τ len f) | _ => none
 | .fn f [] => some (.fn f [])
 | .ref .. | .eref .. | .osn .. | .osp .. | .lit .. | .fn .. | .agg _ | .tup _ | .undef | .q => none
 | d => some (norm E d)
def snapList (E : Env RT den) (os : List (Ob RT den)) : List (D RT den) → Option (List (D RT den))
 | [] => some []
 | d :: l => (snapFlat E os d).bind fun d => (snapList E os l).bind fun l => some (d :: l)
def snap1 (E : Env RT den) (os : List (Ob RT den)) (d : D RT den) : Option (D RT den) :=
 match d with
 | .agg cs => (snapList E os cs).bind fun cs => some (.agg cs)
 | .ref o off => match obj os o with | .box _ cs => bif Nat.blt off cs.length then (snapList E os (cs.drop off)).bind fun cs => some (.rptr cs) else none | _ => none
 | .eref o sz j off => match obj os o with | .row _ τ n f => if E.size τ = sz then some (.rptr ((E.cells τ (f j)).drop off)) else none | _ => none
 | d => snapFlat E os d
def snaps1 (E : Env RT den) (os : List (Ob RT den)) : List (D RT den) → Option (List (D RT den))
 | [] => some []
 | d :: l => (snap1 E os d).bind fun d => (snaps1 E os l).bind fun l => some (d :: l)
def snap (E : Env RT den) (os : List (Ob RT den)) (d : D RT den) : Option (D RT den) :=
 match d with
 | .fn f cap => (snaps1 E os cap).bind fun cap => some (.fn f cap)
 | d => snap1 E os d
def D.own1 : D RT den → Bool
 | .ref .. | .eref .. | .os .. | .osn .. | .osp .. | .lit .. => true
 | .agg cs => cs.any fun d => match d with | .ref .. | .eref .. | .os .. | .osn .. | .osp .. | .lit .. => true | _ => false
 | _ => false
def D.own : D RT den → Bool
 | .fn _ cap => cap.any D.own1
 | d => d.own1
def snaps (E : Env RT den) (os : List (Ob RT den)) : List (D RT den) → Option (List (D RT den))
 | [] => some []
 | d :: l => (snap E os d).bind fun d => (snaps E os l).bind fun l => some (d :: l)
def Env.args (E : Env RT den) (s : St RT den) : List Nat → List Operand → List (D RT den)
 | t :: ts, x :: xs => E.ev s t x :: E.args s ts xs
 | [], x :: xs => E.ev s 0 x :: E.args s [] xs
 | _, [] => []
def elems (E : Env RT den) (τ : RT) (s : St RT den) : List (Nat × Operand) → Nat → Option (List (den τ))
 | [], _ => some []
 | (i, x) :: l, j => if i = j then (E.dec τ ((E.ev s 0 x).cells.map (nrm E τ))).bind fun y => (elems E τ s l (j + 1)).bind fun l => some (y :: l) else none
def elemsL (E : Env RT den) (τ : RT) (s : St RT den) (ps : List (Nat × Operand)) (k : Nat) : Option (List (den τ)) := bif E.lit1 τ then none else elems E τ s ps k
def fields (E : Env RT den) (s : St RT den) (t : Nat) : List (Nat × Operand) → List (D RT den) → Option (List (D RT den))
 | [], cs => some cs
 | (i, x) :: l, cs => (E.fld t i).bind fun p => (E.sz p.2).bind fun n =>
   if (E.ev s p.2 x).cells.length = n ∧ (E.ev s p.2 x).cells.all D.flat = true then (put cs p.1 (E.ev s p.2 x).cells).bind fun cs => fields E s t l cs else none
def merge (t : Bool) : D RT den → D RT den → Option (D RT den)
 | .bool x, .bool y => some (.bool (bif t then x else y))
 | .int k x, .int k' y => if k = k' then some (.int k (bif t then x else y)) else none
 | _, _ => none
structure Out (RT : Type) (den : RT → Type) where
 α : Type
 x : Option α
 g : α → D RT den
 ok : D RT den → Bool
def Out.run (o : Out RT den) : Option (D RT den) := o.x.bind fun y => bif o.ok (o.g y) then some (o.g y) else none
def Out.ret (d : D RT den) : Out RT den := ⟨Unit, some (), fun _ => d, fun _ => true⟩
def Out.chk (c : Bool) (d : D RT den) : Out RT den := ⟨Unit, bif c then some () else none, fun _ => d, fun _ => true⟩
structure OutX (RT : Type) (den : RT → Type) where
 α : Type
 x : Option α
 g : α → D RT den × List (Ob RT den)
def OutX.run (o : OutX RT den) : Option (D RT den × List (Ob RT den)) := o.x.bind fun y => some (o.g y)
structure Pr (RT : Type) (den : RT → Type) where
 fn : Nat → List (D RT den) → Option (D RT den)
 has : Nat → Bool
 lend : Nat → Bool
 dp : Nat → Bool
 pl : Nat → Bool
 gv : Nat → Bool
 fx : Nat → List (D RT den) → List (Ob RT den) → Option (D RT den × List (Ob RT den))
structure Pc (RT : Type) (den : RT → Type) where
 fn : Nat → List (D RT den) → Option (Out RT den)
 has : Nat → Bool
 lend : Nat → Bool
 dp : Nat → Bool
 pl : Nat → Bool
 gv : Nat → Bool
 fx : Nat → List (D RT den) → List (Ob RT den) → Option (OutX RT den)
def Pc.run (pc : Pc RT den) : Pr RT den := ⟨fun f xs => (pc.fn f xs).bind Out.run, pc.has, pc.lend, pc.dp, pc.pl, pc.gv, fun f xs ins => (pc.fx f xs ins).bind OutX.run⟩
def D.ren1 (σ : Nat → Nat) : D RT den → D RT den
 | .os o n => .os (σ o) n
 | .ref o n => .ref (σ o) n
 | d => d
def D.ren (σ : Nat → Nat) : D RT den → D RT den
 | .agg cs => .agg (cs.map (D.ren1 σ))
 | d => d.ren1 σ
def D.hc : D RT den → Bool
 | .os .. | .emp .. => true
 | d => d.sc
def D.hs : D RT den → Bool
 | .agg cs => cs.all D.hc
 | d => d.hc
def D.ids1 : D RT den → List Nat
 | .os o _ | .ref o _ => [o]
 | _ => []
def D.ids : D RT den → List Nat
 | .agg cs => cs.flatMap D.ids1
 | d => d.ids1
def nodups : List Nat → Bool
 | [] => true
 | x :: l => !l.elem x && nodups l
def Ob.flat (E : Env RT den) : Ob RT den → Bool
 | .row false τ _ _ => E.scl τ
 | _ => false
def D.lc (d : D RT den) : Bool := d.hc || d.pure
def D.lx : D RT den → Bool
 | .agg cs => cs.all D.lc
 | .ref .. => true
 | .tup ds => D.scalar (.tup ds)
 | d => d.lc
def Ob.ren (σ : Nat → Nat) : Ob RT den → Ob RT den
 | .box l cs => .box l (cs.map (D.ren1 σ))
 | ob => ob
def Ob.okN : Ob RT den → Bool
 | .row false _ _ _ => true
 | .box false cs => cs.all D.lc
 | _ => false
def lents (σ : Nat → Nat) (os : List (Ob RT den)) : List Nat → Option (List (Ob RT den))
 | [] => some []
 | o :: l => match obj os o with
  | .row _ τ n f => (lents σ os l).bind fun x => some (.row true τ n f :: x)
  | .box _ cs => bif cs.all D.lc then (lents σ os l).bind fun x => some (.box true (cs.map (D.ren1 σ)) :: x) else none
  | _ => none
def backs (σ : Nat → Nat) : List (Ob RT den) → List Nat → List (Ob RT den) → Option (List (Ob RT den))
 | os, [], [] => some os
 | os, o :: l, x :: xs => match obj os o, x with
  | .row b _ _ _, .row _ τ n f => backs σ (os.set o (.row b τ n f)) l xs
  | .box b _, .box _ cs => bif cs.all D.lc then backs σ (os.set o (.box b (cs.map (D.ren1 σ)))) l xs else none
  | _, _ => none
 | _, _, _ => none
def posOf : List Nat → Nat → Nat
 | [], _ => 0
 | x :: l, o => bif x == o then 0 else posOf l o + 1
def homeOf (ids : List Nat) (n : Nat) (k : Nat) : Nat := bif decide (k < ids.length) then ids.getD k 0 else n + (k - ids.length)
def uniqs : List Nat → List Nat → List Nat
 | [], acc => acc
 | x :: l, acc => bif acc.elem x then uniqs l acc else uniqs l (acc ++ [x])
def lentIds (os : List (Ob RT den)) (ds : List (D RT den)) : List Nat :=
 uniqs ((ds.flatMap D.ids).flatMap fun o => match obj os o with | .box _ cs => cs.flatMap D.ids1 | _ => []) (uniqs (ds.flatMap D.ids) [])
def D.within (ids : List Nat) (d : D RT den) : Bool := d.ids.all fun o => ids.elem o
def D.refTo (o : Nat) : D RT den → Bool
 | .ref o' _ => Nat.beq o' o
 | _ => false
def lendOk (os : List (Ob RT den)) (ds : List (D RT den)) (ids : List Nat) : Bool :=
 nodups ids && (ds.all D.lx && (ds.all (D.within ids) && ids.all (fun o => match obj os o with | .box _ cs => cs.all (fun d => d.ids1.all fun o => ids.elem o) && ds.any (D.refTo o) | _ => true)))
def argsX (E : Env RT den) (lend : Bool) (os : List (Ob RT den)) (ds : List (D RT den)) : Option (List (D RT den) × List (Ob RT den) × List Nat) :=
 match lend with
 | true => bif lendOk os ds (lentIds os ds) then
   (lents (posOf (lentIds os ds)) os (lentIds os ds)).bind fun ins => some (ds.map (D.ren (posOf (lentIds os ds))), ins, lentIds os ds) else none
 | false => (snaps E os ds).bind fun ys => some (ys, [], [])
def backX (E : Env RT den) (lend : Bool) (os : List (Ob RT den)) (ids : List Nat) (x : D RT den × List (Ob RT den)) : Option (D RT den × List (Ob RT den)) :=
 match lend with
 | true => bif x.1.lx && (x.2.drop ids.length).all Ob.okN then (backs (homeOf ids os.length) os ids (x.2.take ids.length)).bind fun os' =>
   some (x.1.ren (homeOf ids os.length), os' ++ (x.2.drop ids.length).map (Ob.ren (homeOf ids os.length))) else none
 | false => bif x.1.hs && x.2.all (Ob.flat E) then some (x.1.ren (fun o => o + os.length), os ++ x.2) else none
def dload (E : Env RT den) (os : List (Ob RT den)) (t : Nat) (d : D RT den) : Option (Bool × D RT den) := none
def absorb (E : Env RT den) (o : Nat) (os : List (Ob RT den)) (cs : List (D RT den)) : Option (Bool × List (D RT den) × List (Ob RT den)) := none
def storeDeep (E : Env RT den) (os : List (Ob RT den)) (o z j off : Nat) (l : Bool) (τ : RT) (n p : Nat) (f : Nat → den τ) (new : List (D RT den)) : Option (Bool × List (Ob RT den)) := none
abbrev Src := Nat × Option (Nat × Nat)
def backsD (E : Env RT den) : List (Ob RT den) → List Src → List (Ob RT den) → Option (Bool × List (Ob RT den))
 | os, [], [] => some (true, os)
 | os, (o, none) :: l, x :: xs => match obj os o, x with
  | .row b _ _ _, .row _ τ n f => backsD E (os.set o (.row b τ n f)) l xs
  | .deep b _ _ _ _, .deep _ τ n p f => backsD E (os.set o (.deep b τ n p f)) l xs
  | _, _ => none
 | os, (o, some (i, j)) :: l, x :: xs => match obj os o with
  | .deep b τ n p f => match (E.cells τ (f i))[j]? with
   | some (.rs _ τ0 n' _) => (match x with
    | .row _ τ' _ g => (match E.deq τ' τ0 with
     | .isFalse _ => none
     | .isTrue _ => bif E.scl τ' then (E.dec τ ((E.cells τ (f i)).set j (.rs none τ' n' g))).bind fun y => backsD E (os.set o (.deep b τ n p fun q => if q = i then y else f q)) l xs else none)
    | .deep _ τ' _ p' g => (match E.deq τ' τ0 with
     | .isFalse _ => none
     | .isTrue _ => bif E.scl τ' then none else (E.dec τ ((E.cells τ (f i)).set j (.rs none τ' n' g))).bind fun y => (backsD E (os.set o (.deep b τ n p fun q => if q = i then y else f q)) l xs).bind fun r => some (decide (n' ≤ p') && r.1, r.2))
    | _ => none)
   | _ => none
  | _ => none
 | _, _, _ => none
def Ob.okD (E : Env RT den) : Ob RT den → Bool
 | .row false τ _ _ => E.scl τ
 | .deep false _ _ _ _ => true
 | _ => false
def argsD (E : Env RT den) (lend : Bool) (os : List (Ob RT den)) (ds : List (D RT den)) : Option (Bool × List (D RT den) × List (Ob RT den) × List Src) := none
def backD (E : Env RT den) (lend : Bool) (os : List (Ob RT den)) (l : List Src) (x : D RT den × List (Ob RT den)) : Option (Bool × D RT den × List (Ob RT den)) :=
 match lend with
 | true => bif x.1.scalar then (backsD E os l x.2).bind fun r => some (r.1, x.1, r.2) else none
 | false => bif x.1.hs && x.2.all (Ob.okD E) then some (true, x.1.ren (fun o => o + os.length), os ++ x.2) else none
def callD (E : Env RT den) (pc : Pr RT den) (os : List (Ob RT den)) (f : Nat) (ds : List (D RT den)) : Option (D RT den × List (Ob RT den)) :=
 (argsD E (pc.lend f) os ds).bind fun y => bif y.1 then (pc.fx f y.2.1 y.2.2.1).bind fun x => (backD E (pc.lend f) os y.2.2.2 x).bind fun r => bif r.1 then some r.2 else none else none
def plArg (os : List (Ob RT den)) (d : D RT den) : Bool := match d with
 | .ref o _ => (match obj os o with | .box _ cs => cs.all D.pure | _ => false)
 | d => d.sc
def plOk (os : List (Ob RT den)) (ds : List (D RT den)) : Bool := match ds with
 | d :: ds => plArg os d && ds.all D.sp
 | [] => true
def plOk2 (lend : Bool) (os : List (Ob RT den)) (ds : List (D RT den)) : Bool := bif lend then plOk os ds else ds.all D.spc
def clearS (o : Nat) (os : List (Ob RT den)) : Bool := os.all fun ob => match ob with | .box _ cs => cs.all (fun d => !d.nx o) | _ => true
def argG (E : Env RT den) (os : List (Ob RT den)) (ds : List (D RT den)) : Option (Option Nat × List (D RT den) × List (Ob RT den)) := match ds with
 | .os o len :: ds => bif ds.all D.sc && clearS o os then (match obj os o with | .row false τ n g => some (some o, .os 0 len :: ds, [.row false τ n g]) | _ => none) else none
 | .emp _ τ :: ds => bif ds.all D.sc then some (none, .os 0 0 :: ds, [.row false τ 0 fun _ => E.dflt τ]) else none
 | _ => none
def backG (E : Env RT den) (os : List (Ob RT den)) (v : Option Nat) (x : D RT den × List (Ob RT den)) : Option (D RT den × List (Ob RT den)) := match x with
 | (.os 0 len, [.row false τ n g]) => bif E.scl τ then (match v with | some o => some (.os o len, os.set o (.row false τ n g)) | none => some (.os os.length len, os ++ [.row false τ n g])) else none
 | _ => none
def callG (E : Env RT den) (pc : Pr RT den) (os : List (Ob RT den)) (f : Nat) (ds : List (D RT den)) : Option (Option Nat × D RT den × List (Ob RT den)) :=
 bif pc.gv f then (argG E os ds).bind fun y => (pc.fx f y.2.1 y.2.2).bind fun x => (backG E os y.1 x).bind fun r => some (y.1, r) else none
def callX (E : Env RT den) (pc : Pr RT den) (os : List (Ob RT den)) (f : Nat) (ds : List (D RT den)) : Option (D RT den × List (Ob RT den)) :=
 bif pc.gv f then none else bif pc.dp f then callD E pc os f ds else bif pc.pl f && !plOk2 (pc.lend f) os ds then none else
 (argsX E (pc.lend f) os ds).bind fun y => (pc.fx f y.1 y.2.1).bind fun x => backX E (pc.lend f) os y.2.2 x
def xOf (has : Nat → Bool) : Op → Option (Nat × List Operand)
 | .call { callee := .value (.func f), args := xs, .. } => bif has f then some (f, xs.toList) else none
 | _ => none
section
variable (E : Env RT den) (pc : Nat → List (D RT den) → Option (D RT den))
def evCall (os : List (Ob RT den)) (f : Nat) (args : List (D RT den)) : Option (D RT den) :=
 (snaps E os args).bind fun xs => (pc f xs).bind fun r => bif !(args.any D.own) && r.pures || r.scalar then some r else none
def rdRow (os : List (Ob RT den)) (d : D RT den) : D RT den := match d with
 | .os o len => (match obj os o with | .row _ τ n f => .rs none τ len f | _ => .os o len)
 | d => d
def rdApp (os : List (Ob RT den)) (d : D RT den) : D RT den := match d with
 | .osp o z off len => (match obj os o with | .row _ τ n f => if E.size τ = z then .rs none τ len (fun i => f (off + i)) else .q | _ => .q)
 | d => norm E (rdRow os d)
def byteOf : List (D RT den) → Int
 | [.int _ v] => v
 | _ => 0
def bytesOf (n : Nat) (g : Nat → Int) : ByteArray := ((List.range n).map g).foldl (fun r n => r.push (UInt8.ofNat n.toNat)) ByteArray.empty
def strOf (E : Env RT den) : D RT den → Option (D RT den)
 | .rs _ τ n f => bif E.byt τ then some (.str (bytesOf n fun i => byteOf (E.cells τ (f i)))) else none
 | .emp .. => some (.str ByteArray.empty)
 | _ => none
def val (s : St RT den) (al : Nat) (ty : Nat) : Op → Option (D RT den)
 | .move x | .assign x => some (E.ev s ty x)
 | .pick c a b =>
  match E.ev s 0 c with
  | .bool t => (match merge t (E.ev s ty a) (E.ev s ty b) with
   | some d => some d
   | none => bif t then some (E.ev s ty a) else some (E.ev s ty b))
  | _ => none
 | .alloc t => (E.zero t).bind fun _ => some (.ref al 0)
 | .load t a => match load E s.objs t (E.ev s 0 a) with
  | some d => some d
  | none => (dload E s.objs t (E.ev s 0 a)).bind fun r => bif r.1 then some r.2 else none
 | .nilCheck x =>
  match E.ev s 0 x with
  | .ref o off => some (.ref o off)
  | .eref o z j off => some (.eref o z j off)
  | .rptr cs => some (.rptr cs)
  | .fn f c => some (.fn f c)
  | _ => none
 | .binOp op t x y _ => match op with
  | .shl => (shift .shl (E.ev s 0 x) (E.ev s 0 y)).bind fun r => bif r.1 then some r.2 else none
  | .shr => (shift .shr (E.ev s 0 x) (E.ev s 0 y)).bind fun r => bif r.1 then some r.2 else none
  | op => binOp E op t (E.ev s t x) (E.ev s t y)
 | .convert src dst x => match E.ik src with
  | some _ => (E.ik dst).bind fun k =>
   match E.ev s 0 x with
   | .int _ n => some (.int k (k.wrap n))
   | _ => none
  | none => (E.elem src).bind fun e => (E.ik e).bind fun ke => bif decide (ke = .u8) && E.est dst then strOf E (rdRow s.objs (E.ev s 0 x)) else none
 | .makeFunc (.func f) first caps => bif first.isEmpty then some (.fn f (caps.toList.map (E.ev s 0))) else none
 | .slice t x lo hi none => (E.elem t).bind fun e => (E.sz e).bind fun z => (lenOf (E.ev s 0 x)).bind fun n =>
  (cutOf E (isTold lo) z (E.ev s 0 x) (match lo with | some l => E.ev s 0 l | none => .int .i64 0) (match hi with | some h => E.ev s 0 h | none => .int .i64 n)).bind fun r => bif r.1 then some r.2 else none
 | .unOp op _ x => unOp op (E.ev s 0 x)
 | .fieldAddr t x f => (E.fld t f).bind fun p => (E.sz p.2).bind fun n => if n = 0 then none else
  match E.ev s 0 x with
  | .ref o off => some (.ref o (off + p.1))
  | .eref o z j off => some (.eref o z j (off + p.1))
  | .rptr cs => some (.rptr (cs.drop p.1))
  | _ => none
 | .field t x f => (E.fld t f).bind fun p => (E.sz p.2).bind fun n =>
  match E.ev s 0 x with
  | .agg cs => (sub cs p.1 n).bind fun cs => (E.agg p.2).bind fun g => ofCells g cs
  | _ => none
 | .extract x i =>
  match E.ev s 0 x with
  | .tup ds => ds[i]?
  | _ => none
 | .indexAddr t x i => (E.elem t).bind fun e => (E.sz e).bind fun z =>
  match E.ev s 0 x, E.ev s 0 i with
  | .rs _ τ n f, .int _ k => if z = E.size τ ∧ 0 ≤ k ∧ k.toNat < n then some (.rptr (E.cells τ (f k.toNat))) else none
  | .os o len, .int _ k => if 0 ≤ k ∧ k.toNat < len then some (.eref o z k.toNat 0) else none
  | _, _ => none
 | .call { callee := .builtin .len, args := xs, argTypes := ts } =>
  match xs.toList, ts.toList with
  | [x], [t] => (E.elem t).bind fun _ => (lenOf (E.ev s 0 x)).bind fun n => some (.int .i64 n)
  | _, _ => none
 | .call { callee := .builtin .min, args := xs, .. } => leasts minInt (xs.toList.map (E.ev s 0))
 | .call { callee := .builtin .max, args := xs, .. } => leasts maxInt (xs.toList.map (E.ev s 0))
 | .call { callee := .value f, args := xs, .. } =>
  match E.ev s 0 f with
  | .fn f cap => evCall E pc s.objs f (E.args s (E.par f) xs.toList ++ cap)
  | _ => none
 | .build t ps => bif E.str t then (E.zero t).bind fun cs => (fields E s t ps.toList cs).bind fun cs => some (.agg cs) else none
 | .buildSlice t len ps => (E.elem t).bind fun e => (E.rt e).bind fun τ => (E.sz e).bind fun z => (E.zero e).bind fun _ =>
  if ps.size = len ∧ len ≤ 1000 ∧ z ≤ 1000 ∧ 0 < z then
   match len with
   | 0 => some (.emp false τ)
   | len => match elemsL E τ s ps.toList 0 with
    | some l => some (.rs (some false) τ len fun i => l.getD i (E.dflt τ))
    | none => match ps.toList with
     | [(0, x)] => bif Nat.beq (E.ev s 0 x).cells.length (E.size τ) && (E.ev s 0 x).cells.all D.fl2 then some (.lit τ (E.ev s 0 x).cells) else none
     | _ => none
  else none
 | _ => none
def appendTo (os : List (Ob RT den)) (z by' : Nat) (dx dy : D RT den) : Option (Bool × D RT den × List (Ob RT den)) :=
 match dx, dy with
 | .os o len, .rs _ τ m g => bif clear o os then
   (match obj os o with
   | .row false τ' n f => match E.deq τ' τ with
    | .isFalse _ => none
    | .isTrue h => if z = E.size τ ∧ 0 < z then
      some (decide (len + m ≤ 9223372036854775807) && decide ((len + m) * by' ≤ 140737488355328), .os o (len + m), (os.set o (.row false τ (len + m) fun i => if i < len then (h ▸ f) i else g (i - len))).map (Ob.kill o)) else none
   | _ => none) else none
 | .emp _ τ', .rs _ τ m g => match E.deq τ' τ with
   | .isFalse _ => none
   | .isTrue _ => if z = E.size τ ∧ 0 < z then
     some (decide (m ≤ 9223372036854775807) && decide (m * by' ≤ 140737488355328), .os os.length m, os ++ [.row false τ m g]) else none
 | .os o len, .lit τ cs => bif clear o os then
   (match obj os o with
   | .deep false τ' n p f => match E.deq τ' τ with
    | .isFalse _ => none
    | .isTrue h => if z = E.size τ ∧ 0 < z then (absorb E o os cs).bind fun r => (E.dec τ r.2.1).bind fun y =>
      some (r.1 && (decide (len ≤ p) && (decide (len + 1 ≤ 9223372036854775807) && decide ((len + 1) * by' ≤ 140737488355328))), .os o (len + 1), (r.2.2.set o (.deep false τ (len + 1) (len + 1) fun i => if i < len then (h ▸ f) i else y)).map (Ob.kill o)) else none
   | _ => none) else none
 | .emp _ τ', .lit τ cs => match E.deq τ' τ with
   | .isFalse _ => none
   | .isTrue _ => if z = E.size τ ∧ 0 < z then (absorb E os.length os cs).bind fun r => (E.dec τ r.2.1).bind fun y =>
     some (r.1 && decide (1 * by' ≤ 140737488355328), .os os.length 1, r.2.2 ++ [.deep false τ 1 1 fun _ => y]) else none
 | _, _ => none
def rdPart (E : Env RT den) (os : List (Ob RT den)) (d : D RT den) : D RT den := match d with
 | .os o len => (match obj os o with | .row _ τ n f => .rs none τ len f | _ => .q)
 | .osp o z off len => (match obj os o with | .row _ τ n f => if E.size τ = z then .rs none τ len (fun i => f (off + i)) else .q | _ => .q)
 | d => norm E d
def copyTo (E : Env RT den) (os : List (Ob RT den)) (z : Nat) (dx dy : D RT den) : Option (D RT den × List (Ob RT den)) := none
def eff (s : St RT den) (ty : Nat) : Op → Option (D RT den × List (Ob RT den))
 | .box t x => bif (E.ev s t x).cells.all D.flat then some (.ref s.objs.length 0, s.objs ++ [.box false (E.ev s t x).cells]) else none
 | .store t a x =>
  (E.sz t).bind fun n => bif (E.ev s t x).cells.all D.flat && decide ((E.ev s t x).cells.length = n) then
   match E.ev s 0 a with
   | .ref o off => (match obj s.objs o with
    | .box l cs => (put cs off (E.ev s t x).cells).bind fun cs' => some (.undef, s.objs.set o (.box l cs'))
    | _ => none)
   | .eref o z j off => (match obj s.objs o with
    | .row l τ n f => if E.size τ = z then
      (put (E.cells τ (f j)) off (E.ev s t x).cells).bind fun cs' => (E.dec τ (cs'.map (nrm E τ))).bind fun y => some (.undef, s.objs.set o (.row l τ n fun i => if i = j then y else f i)) else none
    | .deep l τ n p f => (storeDeep E s.objs o z j off l τ n p f (E.ev s t x).cells).bind fun r => bif r.1 then some (.undef, r.2) else none
    | _ => none)
   | _ => none
  else none
 | .makeSlice t l c => (E.elem t).bind fun e => (E.bytes e).bind fun by' => (E.rt e).bind fun τ => (E.zero e).bind fun z => (E.dec τ (z.map (nrm E τ))).bind fun y =>
  match E.ev s 0 l, E.ev s 0 c with
  | .int _ n, .int _ m => if 0 ≤ n ∧ n = m ∧ (by' : Int) * n ≤ 281474976710656 ∧ n ≤ 9223372036854775807 then
    some (.os s.objs.length n.toNat, s.objs ++ [.row false τ n.toNat fun _ => y]) else none
  | _, _ => none
 | .call { callee := .builtin .append, args := xs, argTypes := ts } =>
  match xs.toList, ts.toList with
  | [x, y], [t, t'] => if t = t' then (E.elem t).bind fun e => (E.bytes e).bind fun by' => (E.zero e).bind fun _ => (E.sz e).bind fun z =>
    (appendTo E s.objs z by' (E.ev s 0 x) (rdApp E s.objs (E.ev s 0 y))).bind fun r => bif r.1 then some r.2 else none
  else none
  | _, _ => none
 | .call { callee := .builtin .copy, args := xs, argTypes := ts } =>
  match xs.toList, ts.toList with
  | [x, y], [t, _] => (E.elem t).bind fun e => (E.sz e).bind fun z => copyTo E s.objs z (E.ev s 0 x) (rdPart E s.objs (E.ev s 0 y))
  | _, _ => none
 | _ => none
def victim (s : St RT den) : Op → Option Nat
 | .call { callee := .builtin .append, args := xs, .. } =>
  match xs.toList with
  | [x, _] => (match E.ev s 0 x with | .os o _ => some o | _ => none)
  | _ => none
 | _ => none
def still : Op → Bool
 | .box .. | .store .. | .makeSlice .. | .call { callee := .builtin .append, .. } | .call { callee := .builtin .copy, .. } => false
 | _ => true
def calm (has gv : Nat → Bool) (op : Op) : Bool := still op && ((xOf has op).isNone && (xOf gv op).isNone)
def dstOf (ops : Array Oper) (j : Nat) : Option Nat := (ops[j]?).bind (·.dst)
end
section
variable (E : Env RT den) (pc : Pc RT den) {ρ : Type}
def valO (s : St RT den) (al : Nat) (ty : Nat) : Op → Option (Out RT den)
 | .indexAddr t x i => (E.elem t).bind fun e => (E.sz e).bind fun z =>
  match E.ev s 0 x, E.ev s 0 i with
  | .rs _ τ n f, .int _ k => if z = E.size τ then some (.chk (decide (0 ≤ k) && decide (k.toNat < n)) (.rptr (E.cells τ (f k.toNat)))) else none
  | .os o len, .int _ k => some (.chk (decide (0 ≤ k) && decide (k.toNat < len)) (.eref o z k.toNat 0))
  | .emp .., .int _ _ => some (.chk false .q)
  | _, _ => none
 | .binOp op t x y yt =>
  match op with
  | .shl => (shift .shl (E.ev s 0 x) (E.ev s 0 y)).bind fun r => some (.chk r.1 r.2)
  | .shr => (shift .shr (E.ev s 0 x) (E.ev s 0 y)).bind fun r => some (.chk r.1 r.2)
  | op =>
  match E.ev s t x, E.ev s t y with
  | .rs z _ _ _, .emp true _ => (E.elem t).bind fun _ => match op with | .eql => some ⟨Bool, z, fun b => .bool b, fun _ => true⟩ | .neq => some ⟨Bool, z, fun b => .bool (!b), fun _ => true⟩ | _ => none
  | .int k a, .int k' b => if k = k' then (match op with
   | .quo => some (.chk (!decide (b = 0)) (.int k (k.wrap (a.tdiv b))))
   | .rem => some (.chk (!decide (b = 0)) (.int k (a.tmod b)))
   | op => (val E pc.run.fn s al ty (.binOp op t x y yt)).bind fun d => some (.ret d)) else none
  | .str a, .str b => (match op with
   | .add => some (.chk (E.est t && decide (a.size + b.size ≤ 9223372036854775807)) (.str (a ++ b)))
   | op => (val E pc.run.fn s al ty (.binOp op t x y yt)).bind fun d => some (.ret d))
  | _, _ => (val E pc.run.fn s al ty (.binOp op t x y yt)).bind fun d => some (.ret d)
 | .slice t x lo hi none => (E.elem t).bind fun e => (E.sz e).bind fun z => (lenOf (E.ev s 0 x)).bind fun n =>
  (cutOf E (isTold lo) z (E.ev s 0 x) (match lo with | some l => E.ev s 0 l | none => .int .i64 0) (match hi with | some h => E.ev s 0 h | none => .int .i64 n)).bind fun r => some (.chk r.1 r.2)
 | .load t a => match load E s.objs t (E.ev s 0 a) with
  | some d => some (.ret d)
  | none => (dload E s.objs t (E.ev s 0 a)).bind fun r => some (.chk r.1 r.2)
 | .call { callee := .value f, args := xs, argTypes := ts } =>
  match E.ev s 0 f with
  | .fn f cap => (snaps E s.objs (E.args s (E.par f) xs.toList ++ cap)).bind fun ys => (pc.fn f ys).bind fun o =>
    some ⟨o.α, o.x, o.g, fun r => o.ok r && (!((E.args s (E.par f) xs.toList ++ cap).any D.own) && r.pures || r.scalar)⟩
  | _ => none
 | op => (val E pc.run.fn s al ty op).bind fun d => some (.ret d)
def effO (s : St RT den) (ty : Nat) : Op → Option (Bool × D RT den × List (Ob RT den))
 | .makeSlice t l c => (E.elem t).bind fun e => (E.bytes e).bind fun by' => (E.rt e).bind fun τ => (E.zero e).bind fun z => (E.dec τ (z.map (nrm E τ))).bind fun y =>
  match E.ev s 0 l, E.ev s 0 c with
  | .int _ n, .int _ m => some (decide (0 ≤ n) && (decide (n = m) && (decide ((by' : Int) * n ≤ 281474976710656) && decide (n ≤ 9223372036854775807))), .os s.objs.length n.toNat, s.objs ++ [.row false τ n.toNat fun _ => y])
  | _, _ => none
 | .call { callee := .builtin .append, args := xs, argTypes := ts } =>
  match xs.toList, ts.toList with
  | [x, y], [t, t'] => if t = t' then (E.elem t).bind fun e => (E.bytes e).bind fun by' => (E.zero e).bind fun _ => (E.sz e).bind fun z =>
    appendTo E s.objs z by' (E.ev s 0 x) (rdApp E s.objs (E.ev s 0 y))
  else none
  | _, _ => none
 | .store t a x =>
  match E.ev s 0 a with
  | .eref o z j off => (match obj s.objs o with
   | .deep l τ n p f => (E.sz t).bind fun m => bif (E.ev s t x).cells.all D.flat && decide ((E.ev s t x).cells.length = m) then
     (storeDeep E s.objs o z j off l τ n p f (E.ev s t x).cells).bind fun r => some (r.1, .undef, r.2) else none
   | _ => (eff E s ty (.store t a x)).bind fun r => some (true, r))
  | _ => (eff E s ty (.store t a x)).bind fun r => some (true, r)
 | op => (eff E s ty op).bind fun r => some (true, r)
def evOp (o : Oper) (al : Nat) (s : St RT den) (k : St RT den → Option ρ) : Option ρ :=
 match o.op with
 | .pick c x y =>
  (match E.ev s 0 c with
  | .bool t => (match merge t (E.ev s o.type x) (E.ev s o.type y) with
   | some d => k (s.put o.dst d)
   | none => bif t then k (s.put o.dst (E.ev s o.type x)) else k (s.put o.dst (E.ev s o.type y)))
  | _ => none)
 | op => match xOf pc.has op with
  | some (f, xs) => bif pc.gv f then none else bif pc.dp f then
    (argsD E (pc.lend f) s.objs (E.args s (E.par f) xs)).bind fun y => bif y.1 then (pc.fx f y.2.1 y.2.2.1).bind fun u => u.x.bind fun z =>
    (backD E (pc.lend f) s.objs y.2.2.2 (u.g z)).bind fun r => bif r.1 then k (({ s with objs := r.2.2 } : St RT den).put o.dst r.2.1) else none else none
   else bif pc.pl f && !plOk2 (pc.lend f) s.objs (E.args s (E.par f) xs) then none else (argsX E (pc.lend f) s.objs (E.args s (E.par f) xs)).bind fun y => (pc.fx f y.1 y.2.1).bind fun u => u.x.bind fun z =>
    (backX E (pc.lend f) s.objs y.2.2 (u.g z)).bind fun r => k (({ s with objs := r.2 } : St RT den).put o.dst r.1)
  | none => match xOf pc.gv op with
  | some (f, xs) => bif pc.gv f then (argG E s.objs (E.args s (E.par f) xs)).bind fun y => (pc.fx f y.2.1 y.2.2).bind fun u => u.x.bind fun z =>
    (backG E s.objs y.1 (u.g z)).bind fun r => k ((({ s with objs := r.2 } : St RT den).kill y.1).put o.dst r.1) else none
  | none => bif still op then (match valO E pc s al o.type op with
   | some u => u.x.bind fun y => bif u.ok (u.g y) then k (s.put o.dst (u.g y)) else none
   | none => none)
  else (match effO E s o.type op with
   | some r => bif r.1 then k ((({ s with objs := r.2.2 } : St RT den).kill (victim E s op)).put o.dst r.2.1) else none
   | none => none)
def evOps (ops : Array Oper) : List (Oper × Nat) → St RT den → (St RT den → Option ρ) → Option ρ
 | [], s, k => k s
 | (o, al) :: l, s, k =>
  match o.guard with
  | none => evOp E pc o al s fun s => evOps ops l s k
  | some (j, want) =>
   match dstOf ops j with
   | some t =>
    match s.get t with
    | .bool g => (match want with
     | true => bif g then evOp E pc o al (s.put (some t) (.bool true)) fun s => evOps ops l s k
          else evOps ops l ((s.put (some t) (.bool false)).put o.dst .undef) k
     | false => bif g then evOps ops l ((s.put (some t) (.bool true)).put o.dst .undef) k
           else evOp E pc o al (s.put (some t) (.bool false)) fun s => evOps ops l s k)
    | .undef => evOps ops l (s.put o.dst .undef) k
    | _ => none
   | none => none
def places : List Oper → Nat → List (Oper × Nat)
 | [], _ => []
 | o :: l, n => (o, n) :: places l (match o.op with | .alloc _ => n + 1 | _ => n)
def fresh : List Oper → Option (List (Ob RT den))
 | [] => some []
 | o :: l => match o.op with
  | .alloc t => (E.zero t).bind fun cs => (fresh l).bind fun os => some (.box false cs :: os)
  | _ => fresh l
def bare : Op → Bool
 | .extract .. | .move .. | .assign .. | .slice .. | .binOp .. | .unOp .. | .convert .. | .field .. | .fieldAddr .. | .indexAddr .. | .nilCheck .. | .build .. | .buildSlice .. | .alloc .. => true
 | .call { callee := .builtin .len, .. } => true
 | _ => false
def isCopy : Op → Bool
 | .call { callee := .builtin .copy, .. } => true
 | _ => false
def isTurn (has : Nat → Bool) : Op → Bool
 | .store .. | .box .. | .makeSlice .. => true
 | op => isCopy op || (xOf has op).isSome
def grows (has lend : Nat → Bool) : Op → Bool
 | .box .. | .makeSlice .. => true
 | op => match xOf has op with | some (f, _) => !lend f | none => false
def D.fzd : D RT den → Bool
 | .rptr _ | .rs .. | .emp .. | .undef | .q => true
 | _ => false
def fzB (pr : D RT den → Bool) (ops : Array Oper) (s : St RT den) : Nat → Nat → Bool
 | 0, _ => false
 | n + 1, t => pr (s.get t) && ops.toList.all (fun o => o.dst != some t || (match o.op with
  | .fieldAddr _ (.tmp b) _ => fzB pr ops s n b
  | .nilCheck (.tmp b) => fzB pr ops s n b
  | .move (.tmp b) => fzB pr ops s n b
  | .assign (.tmp b) => fzB pr ops s n b
  | .buildSlice _ 0 _ => true
  | .indexAddr _ (.tmp b) _ => fzB pr ops s n b
  | _ => false))
def fzOf (ops : Array Oper) (s : St RT den) (t : Nat) : Bool := fzB D.fzd ops s 5 t
def D.oldd (n : Nat) : D RT den → Bool
 | .rptr _ | .emp .. | .undef | .q => true
 | .ref o _ => Nat.blt o n
 | .eref o _ _ _ => Nat.blt o n
 | _ => false
def olOf (ops : Array Oper) (s : St RT den) (t : Nat) : Bool := fzB (D.oldd s.objs.length) ops s 5 t
def D.kd (b : Bool) (n k : Nat) : D RT den → Bool
 | .rptr _ | .emp .. | .undef | .q => true
 | .ref o _ => bif b then Nat.beq o k else Nat.blt o n && !Nat.beq o k
 | .int .. | .bool _ | .str _ => b
 | _ => false
def D.gd (n : Nat) : D RT den → Bool
 | .rptr cs => cs.all D.sp
 | .emp .. | .undef | .q => true
 | .ref o _ => Nat.blt o n
 | _ => false
structure FzS where
 fz : Nat → Bool
 ol : Nat → Bool
 kz : Bool → Nat → Nat → Bool
 cv : Nat → Bool
 n : Nat
 gz : Nat → Bool
 ag : Nat → Bool
def fzS (E : Env RT den) (ops : Array Oper) (s : St RT den) : FzS := ⟨fzOf ops s, olOf ops s, fun b k t => fzB (D.kd b s.objs.length k) ops s 5 t, fun t => (E.ik t).isSome, s.objs.length, fun t => fzB (D.gd s.objs.length) ops s 5 t, fun t => E.agg t == some false⟩
def bareC (cv : Nat → Bool) (op : Op) : Bool := bare op && (match op with | .convert t _ _ => cv t | _ => true)
def fzLoad (fz : Nat → Bool) : Op → Bool
 | .load _ (.tmp t) | .convert _ _ (.tmp t) => fz t
 | _ => false
def isMv (o : Oper) : Bool := o.guard.isNone && (match o.op with | .move _ | .assign _ => true | _ => false)
def isApp (o : Oper) : Bool := o.guard.isNone && (match o.op with | .call { callee := .builtin .append, .. } => true | _ => false)
def apE (fz : Nat → Bool) (o : Oper) : Bool := o.guard.isNone && (match o.op with
 | .call { callee := .builtin .append, args := xs, .. } => (match xs.toList with | [.tmp t, _] => fz t | _ => false)
 | _ => false)
def swapE (cv fz : Nat → Bool) (x y : Oper) : Bool := ((bareC cv x.op || fzLoad fz x.op) && apE fz y) || (apE fz x && (bareC cv y.op || fzLoad fz y.op))
def kLoad (kz : Bool → Nat → Nat → Bool) (k : Nat) (o : Oper) : Bool := match o.op with | .load _ (.tmp t) => kz false k t | _ => false
def kCall (has gv lend dp pl : Nat → Bool) (kz : Bool → Nat → Nat → Bool) (k : Nat) (o : Oper) : Bool := match xOf has o.op with
 | some (f, xs) => lend f && (pl f && (!dp f && match xs with | .tmp t :: _ => kz true k t | .const _ :: _ => true | [] => true | _ => false))
 | none => false
def swapK (has gv lend dp pl : Nat → Bool) (kz : Bool → Nat → Nat → Bool) (x y : Oper) : Bool := (List.range 40).any fun k => (kLoad kz k x && kCall has gv lend dp pl kz k y) || (kCall has gv lend dp pl kz k x && kLoad kz k y)
def gBare (cv : Nat → Bool) : Op → Bool
 | .move _ | .assign _ | .fieldAddr .. | .buildSlice .. | .nilCheck _ | .slice .. => true
 | .convert t _ _ => cv t
 | .call { callee := .builtin .len, .. } => true
 | _ => false
def swapG (has gv : Nat → Bool) (cv gz : Nat → Bool) (x y : Oper) : Bool :=
 (x.guard.isNone && y.guard.isNone) && (((xOf has x.op).isNone && (xOf gv x.op).isSome) && (gBare cv y.op || fzLoad gz y.op))
def gNil (has gv : Nat → Bool) (o : Oper) : Bool := o.guard.isNone && ((xOf has o.op).isNone && (match xOf gv o.op with | some (_, .const _ :: _) => true | _ => false))
def swapN (has gv : Nat → Bool) (cv fz : Nat → Bool) (x y : Oper) : Bool := (bareC cv x.op || fzLoad fz x.op) && gNil has gv y
def cellLoad (gz ag : Nat → Bool) : Op → Bool
 | .load ty (.tmp t) => ag ty && gz t
 | _ => false
def swapA (cv gz ag : Nat → Bool) (x y : Oper) : Bool := isApp x && (y.guard.isNone && (gBare cv y.op || cellLoad gz ag y.op))
def swapB (gz ag : Nat → Bool) (x y : Oper) : Bool := isApp y && (x.guard.isNone && cellLoad gz ag x.op)
def swaps (has gv lend dp pl : Nat → Bool) (fz : FzS) (ops : Array Oper) (x y : Oper) : Bool := (((calm has gv x.op && calm has gv y.op) || ((bareC fz.cv x.op || fzLoad fz.fz x.op) && isTurn has y.op) || (isTurn has x.op && (bareC fz.cv y.op || fzLoad fz.fz y.op)) || (calm has gv x.op && grows has lend y.op) || (isMv x && isApp y) || (grows has lend x.op && fzLoad fz.ol y.op)) || swapE fz.cv fz.fz x y || swapK has gv lend dp pl fz.kz x y || swapG has gv fz.cv fz.gz x y || swapA fz.cv fz.gz fz.ag x y || swapN has gv fz.cv fz.fz x y || swapB fz.gz fz.ag x y) && x.apart ops y
def masks : List Oper → List Nat → List Nat
 | [], acc => acc
 | o :: l, acc => masks l (acc ++ [o.after.toList.foldl (fun s e => bif Region.binds .any e then s ||| 2 ^ e.on ||| acc.getD e.on 0 else s) 0])
def drawOk (has gv lend dp pl : Nat → Bool) (fz : FzS) (ops : Array Oper) : Bool :=
 (ops.toList.zipIdx.all fun x => x.1.after.toList.all fun e => !Region.binds .any e || decide (e.on < x.2)) &&
 (List.range ops.size).all fun j => (List.range j).all fun i =>
  (((masks ops.toList []).getD j 0).testBit i || (match ops[i]?, ops[j]? with | some x, some y => swaps has gv lend dp pl fz ops x y | _, _ => false))
def St.mask (s : St RT den) (l : List Nat) : St RT den := { s with slots := l.foldl (fun ds i => ds.set i .q) s.slots }
def evRegion (ops : Array Oper) (draw : Bool) (mg : Option Nat) (s : St RT den) (k : St RT den → Option ρ) : Option ρ :=
 match mg with
 | none => bif !draw || drawOk pc.has pc.gv pc.lend pc.dp pc.pl (fzS E ops s) ops then (fresh E ops.toList).bind fun os => evOps E pc ops (places ops.toList s.objs.length) { s with objs := s.objs ++ os } k else none
 | some t => bif (!draw || drawOk pc.has pc.gv pc.lend pc.dp pc.pl (fzS E ops s) ops) && ops.toList.all (fun o => calm pc.has pc.gv o.op) then (fresh E ops.toList).bind fun os =>
   (evOps (ρ := Bool) E pc ops (places ops.toList s.objs.length) { s with objs := s.objs ++ os } fun s' => match s'.get t with | .bool b => some b | _ => none).bind fun m =>
    k (({ s with objs := s.objs ++ os }.mask ((ops.toList.filterMap Oper.dst).filter (· != t))).put (some t) (.bool m)) else none
inductive Ex where
 | normal | exit (id : Nat) | ret
def Ob.isLent : Ob RT den → Bool
 | .row l _ _ _ => l
 | .deep l _ _ _ _ => l
 | .box l _ => l
 | _ => false
def St.cut (s : St RT den) (n : Nat) : Option (St RT den) :=
 bif s.slots.all (fun d => !d.names n) && (s.objs.take n).all (fun x => match x with | .box _ cs => cs.all (fun d => !d.names n) | _ => true) && (s.objs.drop n).all (fun x => !x.isLent) then some { s with objs := s.objs.take n } else none
def iter (m m2 : List Nat) (n0 : Nat) (step : St RT den → (Ex → St RT den → Option ρ) → Option ρ) : Nat → St RT den → (Ex → St RT den → Option ρ) → Option ρ
 | 0, _, _ => none
 | n + 1, s, k => step s fun e s' => match e with
  | .normal => ((s'.mask m).cut n0).bind fun s' => iter m m2 n0 step n s' k
  | e => k e (s'.mask m2)
structure Lp (RT : Type) (den : RT → Type) (ρ : Type) where
 lp : Nat → St RT den → (Ex → St RT den → Option ρ) → Option ρ
 inl : Nat → Nat → St RT den → (Ex → St RT den → Option ρ) → Option ρ
def St.ownBox (s : St RT den) (o j : Nat) : St RT den :=
 match obj s.objs o with
 | .box l cs => (match cs[j]? with
  | some (.emp _ τ) => { s with objs := s.objs.set o (.box l (cs.set j (.os s.objs.length 0))) ++ [.row false τ 0 fun _ => E.dflt τ] }
  | _ => s)
 | _ => s
def St.deepen (s : St RT den) (o : Nat) : St RT den :=
 match obj s.objs o with
 | .row false τ n f => { s with objs := s.objs.set o (.deep false τ n 0 f) }
 | _ => s
def St.own1 (s : St RT den) (i : Nat) : St RT den :=
 bif Nat.ble 5000000 i then St.deepen s (i - 5000000) else
 bif Nat.ble 1000000 i then St.ownBox E s ((i - 1000000) / 1000) ((i - 1000000) % 1000) else
 match s.slots[i]? with
 | some (.emp _ τ) => { slots := s.slots.set i (.os s.objs.length 0), objs := s.objs ++ [.row false τ 0 fun _ => E.dflt τ] }
 | _ => s
def St.own (s : St RT den) (l : List Nat) : St RT den := l.foldl (St.own1 E) s
def D.frz (o : Nat) (cs : List (D RT den)) (d : D RT den) : D RT den :=
 match d with
 | .ref o' off => bif Nat.beq o' o then .rptr (cs.drop off) else .ref o' off
 | d => d
def D.okf (o : Nat) (d : D RT den) : Bool := !d.nxs o || (match d with | .ref .. => true | _ => false)
def Ob.frz (o : Nat) (cs : List (D RT den)) : Ob RT den → Ob RT den
 | .box b l => .box b (l.map (D.frz o cs))
 | ob => ob
def D.frr (o : Nat) (τ : RT) (f : Nat → den τ) (d : D RT den) : D RT den :=
 match d with
 | .os o' len => bif Nat.beq o' o then .rs none τ len f else .os o' len
 | d => d
def D.okr (o : Nat) (d : D RT den) : Bool := !d.nxs o || (match d with | .os .. => true | d => d.scalar)
def Ob.frr (o : Nat) (τ : RT) (f : Nat → den τ) : Ob RT den → Ob RT den
 | .box b l => .box b (l.map (D.frr o τ f))
 | ob => ob
def okrO (o : Nat) (ob : Ob RT den) : Bool := match ob with | .box _ l => l.all (D.okr o) | _ => true
def St.frr1 (s : St RT den) (o : Nat) : St RT den :=
 match obj s.objs o with
 | .row false τ _ f => bif s.slots.all (D.okr o) && s.objs.all (okrO o) then
   { slots := s.slots.map (D.frr o τ f), objs := (s.objs.set o .gone).map (Ob.frr o τ f) } else s
 | _ => s
def D.hm1 (o k : Nat) (d : D RT den) : D RT den :=
 match d with
 | .os i len => bif Nat.beq i k then .os o len else bif Nat.beq i o then .q else .os i len
 | d => bif d.nx o || d.nx k then .q else d
def D.hm (o k : Nat) (d : D RT den) : D RT den :=
 match d with
 | .agg cs => .agg (cs.map (D.hm1 o k))
 | .os i len => D.hm1 o k (.os i len)
 | d => bif d.nxs o || d.nxs k then .q else d
def Ob.hm (o k : Nat) : Ob RT den → Ob RT den
 | .box b l => .box b (l.map (D.hm1 o k))
 | ob => ob
def St.home (s : St RT den) (o k : Nat) : St RT den :=
 bif Nat.beq o k then s else
 match obj s.objs o, obj s.objs k with
 | .row false _ _ _, .row false τ n f => { slots := s.slots.map (D.hm o k), objs := ((s.objs.set o (.row false τ n f)).set k .gone).map (Ob.hm o k) }
 | _, _ => s
def St.frz1 (s : St RT den) (o : Nat) : St RT den :=
 bif Nat.ble 1000000 o then St.home s (o / 1000 % 1000) (o % 1000) else match obj s.objs o with
 | .row .. => St.frr1 s o
 | .box false cs => bif cs.all D.pure && s.slots.all (D.okf o) && s.objs.all (fun ob => match ob with | .box _ l => l.all (fun d => D.okf o d && (d.isO || !d.nx o)) | _ => true) then
   { slots := s.slots.map (D.frz o (cs.map (norm E))), objs := (s.objs.set o .gone).map (Ob.frz o (cs.map (norm E))) } else s
 | _ => s
def St.frzs (s : St RT den) (l : List Nat) : St RT den := l.foldl (St.frz1 E) s
def result (s : St RT den) : ResultVar → Option (D RT den)
 | .tmp t => some (s.get t)
 | .cell a t => load E s.objs t (s.get a)
def resM (s : St RT den) : List ResultVar → Option (List (D RT den))
 | [] => some []
 | r :: l => (result E s r).bind fun d => (resM s l).bind fun ds => some (d :: ds)
def retOf : List (D RT den) → D RT den
 | [d] => d
 | ds => .tup ds
def opdIn (n : Nat) : Operand → Bool
 | .tmp i => Nat.blt i n
 | _ => true
def operIn (n : Nat) (o : Oper) : Bool := (match o.dst with | some d => Nat.blt d n | none => true) && ((match o.op with | .select .. => false | _ => true) && o.op.operands.toList.all (opdIn n))
def codeIn (n : Nat) : Code → Bool
 | .region _ ops _ => ops.toList.all (operIn n)
 | .seq x y => codeIn n x && codeIn n y
 | .cond c x y => opdIn n c && (codeIn n x && codeIn n y)
 | .block _ c => codeIn n c
 | .loop c => codeIn n c
 | _ => true
def resIn (n : Nat) : ResultVar → Bool
 | .tmp t => Nat.blt t n
 | .cell a _ => Nat.blt a n
def stI (n : Nat) (args : List (D RT den)) (s : St RT den) : St RT den := ⟨args ++ (List.replicate (n - args.length) .undef ++ s.slots), s.objs⟩
def finI (fn : Func) (dst : Option Nat) (k : St RT den → Option ρ) (e : Ex) (s : St RT den) : Option ρ :=
 match e with
 | .exit _ => none
 | _ => (resM E s fn.results.toList).bind fun ds => k ((⟨s.slots.drop fn.ntmps, s.objs⟩ : St RT den).put dst (retOf ds))
def inlOp (lp : Lp RT den ρ) (site : Nat) (o : Oper) (s : St RT den) (k : St RT den → Option ρ) : Option ρ :=
 match o.op with
 | .call { callee := .value fo, args := xs, .. } =>
  match E.ev s 0 fo with
  | .fn f cap =>
   match E.fn f with
   | some fn => bif Nat.ble (E.args s (E.par f) xs.toList ++ cap).length fn.ntmps && fn.results.toList.all (resIn fn.ntmps) then
     lp.inl site f (stI fn.ntmps (E.args s (E.par f) xs.toList ++ cap) s) (finI E fn o.dst k) else none
   | none => none
  | _ => none
 | _ => none
def siteOf : List Nat → Nat → Option Nat
 | [], _ => none
 | x :: l, i => bif Nat.beq (x / 1000) i then some (x % 1000) else siteOf l i
def litO (o : Oper) (s : St RT den) : Option (Bool × Ob RT den × Nat) :=
 match o.guard, o.op with
 | none, .buildSlice t len ps => (E.elem t).bind fun e => (E.rt e).bind fun τ => (E.sz e).bind fun z => (E.zero e).bind fun _ =>
  if ps.size = len ∧ len ≤ 1000 ∧ z ≤ 1000 ∧ 0 < z ∧ 0 < len then (elems E τ s ps.toList 0).bind fun l => some (true, .row false τ len (fun i => l.getD i (E.dflt τ)), len) else none
 | none, .makeSlice t l c => (E.elem t).bind fun e => (E.bytes e).bind fun by' => (E.rt e).bind fun τ => (E.zero e).bind fun z => (E.dec τ (z.map (nrm E τ))).bind fun y =>
  match E.ev s 0 l, E.ev s 0 c with
  | .int _ n, .int _ m => some (decide (0 ≤ n) && (decide (n = m) && (decide ((by' : Int) * n ≤ 281474976710656) && decide (n ≤ 9223372036854775807))), .row false τ n.toNat (fun _ => y), n.toNat)
  | _, _ => none
 | _, _ => none
def litVal (o : Oper) (s : St RT den) : Option (Ob RT den × Nat) := (litO E o s).bind fun r => bif r.1 then some r.2 else none
def freeAt (os : List (Ob RT den)) (al : Nat) : Bool := match os[al]? with | some (.box false []) => true | _ => false
def litOp (o : Oper) (al : Nat) (s : St RT den) : Option (St RT den) := (litVal E o s).bind fun r => bif freeAt s.objs al then some (({ s with objs := s.objs.set al r.1 } : St RT den).put o.dst (.os al r.2)) else none
def isLitS (site : Nat) : Bool := Nat.ble 990 site
def onlyLit (inls : List Nat) : Bool := inls.all fun x => isLitS (x % 1000)
def litObs (inls : List Nat) : List (Ob RT den) := List.replicate (inls.filter fun x => isLitS (x % 1000)).length (.box false [])
def evOpsI (lp : Lp RT den ρ) (inls : List Nat) (ops : Array Oper) : List ((Oper × Nat) × Nat) → St RT den → (St RT den → Option ρ) → Option ρ
 | [], s, k => k s
 | (p, i) :: l, s, k => match siteOf inls i with
  | none => evOps E pc ops [p] s fun s => evOpsI lp inls ops l s k
  | some site => bif isLitS site then (litO E p.1 s).bind fun r => bif r.1 then (bif freeAt s.objs (p.2 + (site - 990)) then evOpsI lp inls ops l (({ s with objs := s.objs.set (p.2 + (site - 990)) r.2.1 } : St RT den).put p.1.dst (.os (p.2 + (site - 990)) r.2.2)) k else none) else none else
   match p.1.guard with
   | none => inlOp E lp site p.1 s fun s => evOpsI lp inls ops l s k
   | some _ => none
def fzN (E : Env RT den) : FzS := ⟨fun _ => false, fun _ => false, fun _ _ _ => false, fun t => (E.ik t).isSome, 0, fun _ => false, fun _ => false⟩
def storeOld (kz : Bool → Nat → Nat → Bool) : Op → Bool
 | .store _ (.tmp t) _ => kz false 39 t
 | _ => false
def litSw (fz : FzS) (o : Oper) : Bool := (bareC fz.cv o.op || fzLoad fz.fz o.op) || storeOld fz.kz o.op
def callP (has gv lend dp pl : Nat → Bool) (op : Op) : Bool := match xOf has op with
 | some (f, _) => pl f && (!lend f && !dp f)
 | none => false
def pairOk (has gv lend dp pl : Nat → Bool) (fz : FzS) (inls : List Nat) (ops : Array Oper) (i j : Nat) (x y : Oper) : Bool :=
 match siteOf inls i, siteOf inls j with
 | none, none => swaps has gv lend dp pl fz ops x y
 | some a, none => isLitS a && ((litSw fz y || callP has gv lend dp pl y.op) && x.apart ops y)
 | none, some b => isLitS b && ((litSw fz x || callP has gv lend dp pl x.op || calm has gv x.op) && x.apart ops y)
 | _, _ => false
def drawOkI (has gv lend dp pl : Nat → Bool) (fz : FzS) (inls : List Nat) (ops : Array Oper) : Bool :=
 (ops.toList.zipIdx.all fun x => x.1.after.toList.all fun e => !Region.binds .any e || decide (e.on < x.2)) &&
 (List.range ops.size).all fun j => (List.range j).all fun i =>
  (((masks ops.toList []).getD j 0).testBit i || (match ops[i]?, ops[j]? with | some x, some y => pairOk has gv lend dp pl fz inls ops i j x y | _, _ => false))
def noAlloc (o : Oper) : Bool := match o.op with
 | .alloc _ => false
 | _ => true
def litsOk (inls : List Nat) : Bool := (onlyLit inls || inls.all fun x => !isLitS (x % 1000)) && (nodups (inls.map (· % 1000)) &&
 inls.all fun x => !isLitS (x % 1000) || decide (x % 1000 - 990 < (inls.filter fun x => isLitS (x % 1000)).length))
def evRegionI (lp : Lp RT den ρ) (inls : List Nat) (ops : Array Oper) (draw : Bool) (s : St RT den) (k : St RT den → Option ρ) : Option ρ :=
 bif ((!draw || drawOkI pc.has pc.gv pc.lend pc.dp pc.pl (bif onlyLit inls then fzS E ops s else fzN E) inls ops) && ops.toList.all noAlloc) && litsOk inls then evOpsI E pc lp inls ops (places ops.toList s.objs.length).zipIdx { s with objs := s.objs ++ litObs inls } k else none
def evCode (msk : Nat → List Nat) (lp : Lp RT den ρ) : Nat → Code → St RT den → (Ex → St RT den → Option ρ) → Option ρ
 | _, .skip, s, k => k .normal s
 | _, .region id ops draw, s, k => match msk (600000 + id) with
  | [] => evRegion E pc ops draw (msk (200000 + id)).head? (St.frzs E s (msk (500000 + id))) (k .normal)
  | i :: l => evRegionI E pc lp (i :: l) ops draw ((St.frzs E s (msk (500000 + id))).mask (msk (800000 + id))) (k .normal)
 | b, .seq x y, s, k => evCode msk lp b x s fun e s' => match e with
  | .normal => evCode msk lp b y s' k
  | e => k e s'
 | b, .cond (.tmp t) x y, s, k => match s.get t with
  | .bool g => bif g then evCode msk lp b x (s.put (some t) (.bool true)) k else evCode msk lp b y (s.put (some t) (.bool false)) k
  | _ => none
 | b, .cond (.const (.bool g)) x y, s, k => bif g then evCode msk lp b x s k else evCode msk lp b y s k
 | _, .block i c, s, k => evCode msk lp i c s fun e s' => match e with
  | .exit j => if j = i then k .normal s' else k (.exit j) s'
  | e => k e s'
 | b, .loop c, s, k => lp.lp b (St.own E (s.mask (msk b)) (msk (300000 + b))) k
 | _, .exit i, s, k => k (.exit i) s
 | _, .ret, s, k => k .ret s
 | _, _, _, _ => none
def loops : Nat → Code → List (Nat × Code)
 | b, .seq x y => loops b x ++ loops b y
 | b, .cond _ x y => loops b x ++ loops b y
 | _, .block i c => loops i c
 | b, .loop c => (b, c) :: loops b c
 | _, _ => []
def snapRes (os : List (Ob RT den)) : D RT den → Option (D RT den)
 | .agg cs => (snapList E os cs).bind fun cs => some (.agg cs)
 | d => snapFlat E os d
def results (s : St RT den) : List ResultVar → Option (List (D RT den))
 | [] => some []
 | r :: l => (result E s r).bind fun d => (snapRes E s.objs d).bind fun d => (results s l).bind fun ds => some (d :: ds)
def finish (fn : Func) (out : D RT den → Option ρ) (e : Ex) (s : St RT den) : Option ρ :=
 match e with
 | .exit _ => none
 | _ => (results E s fn.results.toList).bind fun ds => out (retOf ds)
def evFun (msk : Nat → List Nat) (lp : Lp RT den ρ) (out : D RT den → Option ρ) (f : Nat) (args : List (D RT den)) : Option ρ :=
 match E.fn f with
 | some fn =>
  match fn.body with
  | some c => evCode E pc msk lp 0 c ⟨args ++ List.replicate (fn.ntmps - args.length) .undef, []⟩ (finish E fn out)
  | none => none
 | none => none
end
end Go.Proofs.Ytcmfekgdlaffkaa.Vm

