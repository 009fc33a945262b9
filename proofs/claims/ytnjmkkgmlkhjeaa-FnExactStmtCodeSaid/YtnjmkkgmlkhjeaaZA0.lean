/- A part of the plain reading of Go's code: what a function's code comes to, by a plain function. No condition. -/
import Derived.Orders
import Derived.Below
import Derived.KernelRfl
import Derived.Laws.OwnMore
import Derived.Maps.AppendAt
import Derived.Laws.StructEq
import Derived.Laws.Concat
import Derived.Laws.Small
import Derived.Laws.Slices
import Derived.Laws.Cells
import Derived.Laws.Unary
import Derived.Laws.BytesString
import Derived.Laws.Build
namespace Go.Proofs.Ytnjmkkgmlkhjeaa.AM

/-- A type of elements: the cells of one, and one out of its cells. -/
structure Ent where
  α : Type
  cells : α → List Value
  back : List Value → Option α
  dflt : α
  k : Option IntKind
structure Univ where
  ent : Nat → Ent
abbrev Univ.El (U : Univ) (t : Nat) : Type := (U.ent t).α
def Univ.cells (U : Univ) (t : Nat) (x : U.El t) : List Value := (U.ent t).cells x
def Univ.back (U : Univ) (t : Nat) (l : List Value) : Option (U.El t) := (U.ent t).back l
def Univ.dflt (U : Univ) (t : Nat) : U.El t := (U.ent t).dflt

inductive Ty where
  | int (k : IntKind) | bool | str | sl (e : Nat) | st (fs : List (Nat × Nat)) | arr (n e : Nat) | ptr (e : Nat) | other | slf (e : Nat)


inductive Z where
  | int (k : IntKind) | bool | str | sl | ptr | func | arr (e n : Nat)

structure TI where
  ty : Ty
  size : Nat
  bytes : Nat
  zero : List Z

inductive C (El : Nat → Type) : Type where
  | sc (v : Value)
  | row (t : Nat) (l : List (El t)) (tight loc : Bool)
  | sl (id : Nat)
  | sub (id t off len : Nat)
  | arr (t n : Nat) (l : List (El t))
  | ptr (id off : Nat)
  | pda (id t i off : Nat)
  | parr (id e n f i off : Nat)
  | prow (t : Nat) (l : List (El t)) (i off : Nat)
  | fn (f : Nat) (caps : List (Nat × Nat))
  | bfn (f id off : Nat)
  | fsl (id n : Nat)

inductive W (El : Nat → Type) : Type where
  | c (x : C El)
  | agg (xs : List (C El))

inductive V (El : Nat → Type) : Type where
  | un | und
  | w (x : W El)
  | tup (xs : List (W El))

inductive Blk (El : Nat → Type) : Type where
  | dead
  | st (t : Nat) (cs : List (C El))
  | da (t : Nat) (l : List (El t))

structure St (El : Nat → Type) : Type where
  env : Nat → V El
  mem : List (Blk El)

variable {El : Nat → Type}

/-- The cells of an element. -/
def Univ.sz (U : Univ) (t : Nat) : Nat := (U.cells t (U.dflt t)).length

def C.width (U : Univ) : C U.El → Nat
  | .arr t n _ => n * U.sz t
  | _ => 1

abbrev int (k : IntKind) (n : Int) : W El := .c (.sc (.int k n))
abbrev bool (b : Bool) : W El := .c (.sc (.bool b))
abbrev str (s : ByteArray) : W El := .c (.sc (.string s))

def upd (e : Nat → V El) (d : Option Nat) (v : V El) : Nat → V El :=
  match d with
  | some d => fun t => cond (Nat.beq t d) v (e t)
  | none => e

def ofConst : Value → V El
  | .agg cs => if cs.toList.all Value.oneCell' then .w (.agg (cs.toList.map .sc)) else .un
  | .tuple _ => .un
  | v => .w (.c (.sc v))

def opv (e : Nat → V El) : Operand → V El
  | .tmp t => e t
  | .const v => ofConst v
  | .func f => .w (.c (.fn f []))
  | .global _ => .un

/-- The cells of a list of fields from an offset on, of a size. -/
def takeW (U : Univ) : List (C U.El) → Nat → Option (List (C U.El))
  | _, 0 => some []
  | [], _ + 1 => none
  | c :: cs, n + 1 => let w := c.width U
    if w ≤ n + 1 then if w = 0 then none else (takeW U cs (n + 1 - w)).map (c :: ·) else none
def dropW (U : Univ) : List (C U.El) → Nat → Option (List (C U.El))
  | cs, 0 => some cs
  | [], _ + 1 => none
  | c :: cs, n + 1 => let w := c.width U
    if w ≤ n + 1 then if w = 0 then none else dropW U cs (n + 1 - w) else none

def getAt (U : Univ) (cs : List (C U.El)) (off size : Nat) : Option (List (C U.El)) :=
  (dropW U cs off).bind fun r => takeW U r size
def putAt (U : Univ) (cs : List (C U.El)) (off size : Nat) (new : List (C U.El)) : Option (List (C U.El)) :=
  (takeW U cs off).bind fun a => (dropW U cs (off + size)).bind fun b => some (a ++ (new ++ b))

def widths (U : Univ) : List (C U.El) → Nat
  | [] => 0
  | c :: cs => c.width U + widths U cs

def isAggT (x : TI) : Bool := match x.ty with | .st _ | .arr _ _ => true | _ => false

def W.cells : W El → List (C El)
  | .c x => [x]
  | .agg xs => xs

/-- A value of a type out of its cells. -/
def mkW (x : TI) (cs : List (C El)) : Option (W El) :=
  if isAggT x then some (.agg cs) else match cs with
    | [.arr ..] => none
    | [c] => some (.c c)
    | _ => none

def scs : List (C El) → Option (List Value)
  | [] => some []
  | .sc v :: cs => (scs cs).map (v :: ·)
  | _ => none

def zeroC (U : Univ) : List Z → List (C U.El)
  | [] => []
  | .int k :: zs => .sc (.int k 0) :: zeroC U zs
  | .bool :: zs => .sc (.bool false) :: zeroC U zs
  | .str :: zs => .sc (.string ⟨#[]⟩) :: zeroC U zs
  | .sl :: zs => .sc (.slice none 0 0) :: zeroC U zs
  | .ptr :: zs => .sc (.pointer none) :: zeroC U zs
  | .func :: zs => .sc .nilFunc :: zeroC U zs
  | .arr e n :: zs => .arr e n (List.replicate n (U.dflt e)) :: zeroC U zs

def rd {α : Type} (d : α) (l : List α) (i : Nat) : α := l.getD i d

def bt (s : ByteArray) (i : Nat) : Int := ((s.data.getD i 0).toNat : Int)

def strOf (l : List Int) : ByteArray := ⟨(l.map fun n => UInt8.ofNat n.toNat).toArray⟩

structure Cfg where
  U : Univ
  ti : Nat → Option TI
  own : List Nat
  ntmps : Nat
  ios : List Nat
  pins : List Nat

def Cfg.tyOf (G : Cfg) (t : Nat) : Option Ty := (G.ti t).map TI.ty

def ibits (op : BinOp) (k : IntKind) (x y : Int) : Int :=
  match op with
  | .and => k.wrap (BitVec.ofInt k.bits x &&& BitVec.ofInt k.bits y).toNat
  | .or => k.wrap (BitVec.ofInt k.bits x ||| BitVec.ofInt k.bits y).toNat
  | .xor => k.wrap (BitVec.ofInt k.bits x ^^^ BitVec.ofInt k.bits y).toNat
  | _ => k.wrap (BitVec.ofInt k.bits x &&& ~~~ (BitVec.ofInt k.bits y)).toNat

variable {ρ : Type}

def aInt (op : BinOp) (k : IntKind) (x y : Int) (K : W El → Option ρ) : Option ρ :=
  match op with
  | .add => K (int k (k.wrap (x + y)))
  | .sub => K (int k (k.wrap (x - y)))
  | .mul => K (int k (k.wrap (x * y)))
  | .quo => cond (y == 0) none (K (int k (k.wrap (x.tdiv y))))
  | .rem => cond (y == 0) none (K (int k (x.tmod y)))
  | .shl => cond (decide (y < 0)) none (K (int k (k.wrap (x * 2 ^ min y.toNat k.bits))))
  | .shr => cond (decide (y < 0)) none (K (int k (x.fdiv (2 ^ min y.toNat k.bits))))
  | .and | .or | .xor | .andNot => K (int k (ibits op k x y))
  | .eql => K (bool (x == y))
  | .neq => K (bool (x != y))
  | .lss => K (bool (decide (x < y)))
  | .leq => K (bool (decide (x ≤ y)))
  | .gtr => K (bool (decide (x > y)))
  | .geq => K (bool (decide (x ≥ y)))

def aStr (op : BinOp) (x y : ByteArray) (K : W El → Option ρ) : Option ρ :=
  match op with
  | .add => cond (decide (((x.size + y.size : Nat) : Int) > IntKind.i64.max)) none (K (str (x ++ y)))
  | .eql => K (bool (x.toList == y.toList))
  | .neq => K (bool (!(x.toList == y.toList)))
  | _ => none

/-- Equality of scalars' cells; 0: whole numbers, 1: bools, 2: strings. -/
def eqSc : Nat → Value → Value → Option Bool
  | 0, .int k a, .int k' b => if k = k' then some (a == b) else none
  | 1, .bool a, .bool b => some (a == b)
  | 2, .string a, .string b => some (a.toList == b.toList)
  | _, _, _ => none
def intOf : List Value → Int
  | [.int _ n] => n
  | _ => 0
/-- Rows of whole numbers: whether they are alike. -/
def arrEq (U : Univ) (e : Nat) (a b : List (U.El e)) : Bool := (a.map fun y => intOf (U.cells e y)) == b.map fun y => intOf (U.cells e y)
def eqCs (U : Univ) : List Nat → List (C U.El) → List (C U.El) → Option Bool
  | [], [], [] => some true
  | k :: ks, .sc a :: as, .sc b :: bs => match eqSc k a b, eqCs U ks as bs with
    | some x, some y => some (x && y)
    | _, _ => none
  | ks, .arr e n a :: as, .arr e' n' b :: bs => if h : e' = e then if n' = n ∧ (U.ent e).k.isSome = true ∧ ks.take n = List.replicate n 0 then match eqCs U (ks.drop n) as bs with
      | some y => some (arrEq U e a (h ▸ b) && y)
      | none => none
    else none else none
  | _, _, _ => none

/-- A type whose equality is that of its cells: their kinds. -/
def eqFs (p : Nat → Option (List Nat)) : List (Nat × Nat) → Nat → Nat → Option (List Nat)
  | [], off, size => if off = size then some [] else none
  | (o, ft) :: fs, off, size => if o = off then (p ft).bind fun ks => (eqFs p fs (off + ks.length) size).map (ks ++ ·) else none
def eqTy (ti : Nat → Option TI) : Nat → Nat → Option (List Nat)
  | 0, _ => none
  | d + 1, t => match ti t with
    | some x => match x.ty with
      | .int _ => if x.size = 1 then some [0] else none
      | .bool => if x.size = 1 then some [1] else none
      | .str => if x.size = 1 then some [2] else none
      | .st fs => eqFs (eqTy ti d) fs 0 x.size
      | .arr n e => match eqTy ti d e with
        | some [0] => if x.size = n then some (List.replicate n 0) else none
        | _ => none
      | _ => none
    | none => none

def aBin (U : Univ) (ti : Nat → Option TI) (op : BinOp) (t : Nat) (x y : V U.El) (K : W U.El → Option ρ) : Option ρ :=
  match x, y with
  | .w (.c (.sc (.int k a))), .w (.c (.sc (.int k' b))) =>
    match op with
    | .shl => aInt .shl k a b K
    | .shr => aInt .shr k a b K
    | op => if k = k' then aInt op k a b K else none
  | .w (.c (.sc (.string a))), .w (.c (.sc (.string b))) => aStr op a b K
  | .w (.c (.sc (.bool a))), .w (.c (.sc (.bool b))) =>
    match (ti t).map TI.ty, op with
    | some .bool, .eql => K (bool (a == b))
    | some .bool, .neq => K (bool (!(a == b)))
    | _, _ => none
  | .w (.agg as), .w (.agg bs) =>
    match (ti t).map TI.ty, (eqTy ti 10 t).bind fun ks => eqCs U ks as bs, op with
    | some (.st _), some b, .eql => K (bool b)
    | some (.st _), some b, .neq => K (bool (!b))
    | _, _, _ => none
  | _, _ => none

def aUn (op : UnOp) (x : V El) (K : W El → Option ρ) : Option ρ :=
  match op, x with
  | .not, .w (.c (.sc (.bool b))) => K (bool (!b))
  | .neg, .w (.c (.sc (.int k n))) => K (int k (k.wrap (0 - n)))
  | .xor, .w (.c (.sc (.int k n))) => K (int k (ibits .xor k (if k.signed then -1 else k.max) n))
  | _, _ => none

/-- The row that a slice's value reads. -/
def rowOf (m : List (Blk El)) (t : Nat) : C El → Option (List (El t))
  | .row t' l _ _ => if h : t' = t then some (h ▸ l) else none
  | .sl id => match m[id]? with
    | some (.da t' l) => if h : t' = t then some (h ▸ l) else none
    | _ => none
  | .sub id t' off len => match m[id]? with
    | some (.da t'' l) => if h : t'' = t then if t' = t then some (((h ▸ l).drop off).take len) else none else none
    | _ => none
  | .sc (.slice none 0 0) => some []
  | _ => none

/-! ### typed places -/

inductive S1 where
  | int (k : IntKind) | bool | str | row (t : Nat) | arr (t n : Nat) | sl (t : Nat)
  | rol (t : Nat) | ip (t : Nat) | gv (t : Nat)

def S1.T (El : Nat → Type) : S1 → Type
  | .int _ => Int
  | .bool => Bool
  | .str => ByteArray
  | .row t | .arr t _ | .sl t | .rol t | .ip t | .gv t => List (El t)

def Ts (El : Nat → Type) : List S1 → Type
  | [] => Unit
  | s :: ss => s.T El × Ts El ss

inductive AS where
  | c (s : S1)
  | agg (ss : List S1)
  | ptr (t : Nat)
  | skip
  | io (t : Nat) (ss : List S1)
  | bk (t : Nat)
  | np (t : Nat) (ss : List S1)
  | fnp (f : Nat) (caps : List (Nat × List S1))

def CapT (El : Nat → Type) : List (Nat × List S1) → Type
  | [] => Unit
  | p :: ps => Ts El p.2 × CapT El ps

def AS.T (El : Nat → Type) : AS → Type
  | .c s => s.T El
  | .agg ss => Ts El ss
  | .ptr t => El t
  | .skip => Unit
  | .io _ ss => Ts El ss
  | .bk t => List (El t)
  | .np _ ss => Ts El ss
  | .fnp _ caps => CapT El caps

def ASs (El : Nat → Type) : List AS → Type
  | [] => Unit
  | s :: ss => s.T El × ASs El ss

/-- Results: one is itself, more are a product that ends with the last. -/
def Os (El : Nat → Type) : List AS → Type
  | [] => Unit
  | [s] => s.T El
  | s :: s' :: ss => s.T El × Os El (s' :: ss)

def C.int? (k : IntKind) : C El → Option Int
  | .sc (.int k' n) => if k = k' then some n else none
  | _ => none
def C.bool? : C El → Option Bool
  | .sc (.bool b) => some b
  | _ => none
def C.str? : C El → Option ByteArray
  | .sc (.string b) => some b
  | _ => none
def C.arr? (t n : Nat) : C El → Option (List (El t))
  | .arr t' n' l => if h : t' = t then if n' = n then some (h ▸ l) else none else none
  | _ => none

/-- A row that is a view; a row that is owned. -/
def rolOf (t : Nat) : C El → Option (List (El t))
  | .row t' l _ _ => if h : t' = t then some (h ▸ l) else none
  | .sc (.slice none 0 0) => some []
  | _ => none
def ownRow (m : List (Blk El)) (t : Nat) : C El → Option (List (El t))
  | .sl id => match m[id]? with
    | some (.da t' l) => if h : t' = t then some (h ▸ l) else none
    | _ => none
  | .sc (.slice none 0 0) => some []
  | _ => none

def S1.dec (m : List (Blk El)) : (s : S1) → C El → Option (s.T El)
  | .int k => C.int? k
  | .bool => C.bool?
  | .str => C.str?
  | .row t => rowOf m t
  | .sl t => rowOf m t
  | .arr t n => C.arr? t n
  | .rol t => rolOf t
  | .ip t | .gv t => ownRow m t

def decs (m : List (Blk El)) : (ss : List S1) → List (C El) → Option (Ts El ss)
  | [], [] => some ()
  | s :: ss, c :: cs => (s.dec m c).bind fun x => (decs m ss cs).bind fun y => some (x, y)
  | _, _ => none

/-- What a pointer's place holds, as one element. -/
def ptrElem (U : Univ) (m : List (Blk U.El)) (t : Nat) : C U.El → Option (U.El t)
  | .ptr id off => match m[id]? with
    | some (.st _ cs) => (getAt U cs off (U.sz t)).bind fun cs => (scs cs).bind (U.back t)
    | _ => none
  | .pda id e i off => match m[id]? with
    | some (.da e' l) => if e = e' then if off + U.sz t ≤ U.sz e' then U.back t (((U.cells e' (rd (U.dflt e') l i)).drop off).take (U.sz t)) else none else none
    | _ => none
  | .prow e l i off => if off + U.sz t ≤ U.sz e then U.back t (((U.cells e (rd (U.dflt e) l i)).drop off).take (U.sz t)) else none
  | _ => none

/-- What a block of a struct holds. -/
def ioDec (m : List (Blk El)) (t : Nat) (ss : List S1) (id : Nat) : Option (Ts El ss) :=
  match m[id]? with
  | some (.st t' cs) => if t' = t then decs m ss cs else none
  | _ => none
def capsDec (m : List (Blk El)) : (caps : List (Nat × List S1)) → List (Nat × Nat) → Option (CapT El caps)
  | [], [] => some ()
  | p :: ps, c :: cs => if c.2 = 0 then (ioDec m p.1 p.2 c.1).bind fun x => (capsDec m ps cs).bind fun y => some (x, y) else none
  | _, _ => none

def AS.dec (U : Univ) (m : List (Blk U.El)) : (s : AS) → V U.El → Option (s.T U.El)
  | .c s, .w (.c x) => s.dec m x
  | .agg ss, .w (.agg xs) => decs m ss xs
  | .ptr t, .w (.c x) => ptrElem U m t x
  | .skip, _ => some ()
  | .io t ss, .w (.c (.ptr id off)) => if off = 0 then ioDec m t ss id else none
  | .fnp f caps, .w (.c (.fn f' cs)) => if f' = f then capsDec m caps cs else none
  | _, _ => none

def ASdec (U : Univ) (m : List (Blk U.El)) : (ss : List AS) → List (V U.El) → Option (ASs U.El ss)
  | [], [] => some ()
  | s :: ss, v :: vs => (s.dec U m v).bind fun x => (ASdec U m ss vs).bind fun y => some (x, y)
  | _, _ => none

/-- What a place holds, by value: rows are views. -/
def S1.enc : (s : S1) → s.T El → (loc : Bool) → C El
  | .int k, n, _ => .sc (.int k n)
  | .bool, b, _ => .sc (.bool b)
  | .str, s, _ => .sc (.string s)
  | .row t, l, loc | .sl t, l, loc | .rol t, l, loc | .ip t, l, loc | .gv t, l, loc => .row t l false loc
  | .arr t n, l, _ => .arr t n l

def encs : (ss : List S1) → Ts El ss → Bool → List (C El)
  | [], _, _ => []
  | s :: ss, (x, y), loc => s.enc x loc :: encs ss y loc

/-- A function's arguments at its start: what it may write are blocks of its own. -/
def encI1 : (s : S1) → s.T El → List (Blk El) → C El × List (Blk El)
  | .ip t, l, m | .gv t, l, m => (.sl m.length, m ++ [.da t l])
  | .rol t, l, m => (.row t l false true, m)
  | s, x, m => (s.enc x false, m)
def encI2 : (ss : List S1) → Ts El ss → List (Blk El) → List (C El) × List (Blk El)
  | [], _, m => ([], m)
  | s :: ss, (x, y), m => ((encI1 s x m).1 :: (encI2 ss y (encI1 s x m).2).1, (encI2 ss y (encI1 s x m).2).2)
def encIo (t : Nat) (ss : List S1) (x : Ts El ss) (m : List (Blk El)) : Nat × List (Blk El) :=
  ((encI2 ss x m).2.length, (encI2 ss x m).2 ++ [.st t (encI2 ss x m).1])
def encICaps : (caps : List (Nat × List S1)) → CapT El caps → List (Blk El) → List (Nat × Nat) × List (Blk El)
  | [], _, m => ([], m)
  | p :: ps, (x, y), m => (((encIo p.1 p.2 x m).1, 0) :: (encICaps ps y (encIo p.1 p.2 x m).2).1, (encICaps ps y (encIo p.1 p.2 x m).2).2)
def encI : (s : AS) → s.T El → List (Blk El) → V El × List (Blk El)
  | .c s, x, m => (.w (.c (encI1 s x m).1), (encI1 s x m).2)
  | .agg ss, x, m => (.w (.agg (encI2 ss x m).1), (encI2 ss x m).2)
  | .ptr t, x, m => (.w (.c (.prow t [x] 0 0)), m)
  | .io t ss, x, m => (.w (.c (.ptr (encIo t ss x m).1 0)), (encIo t ss x m).2)
  | .fnp f caps, x, m => (.w (.c (.fn f (encICaps caps x m).1)), (encICaps caps x m).2)
  | _, _, m => (.un, m)
def encIs : (ss : List AS) → ASs El ss → List (Blk El) → List (V El) × List (Blk El)
  | [], _, m => ([], m)
  | s :: ss, (x, y), m => ((encI s x m).1 :: (encIs ss y (encI s x m).2).1, (encIs ss y (encI s x m).2).2)

/-- Results at a function's end: rows must be the call's own. -/
def C.loc : C El → Bool
  | .row _ _ _ loc => loc
  | _ => true
def C.own : C El → Bool
  | .sl _ | .sc _ => true
  | _ => false
def S1.out (m : List (Blk El)) : (s : S1) → C El → Option (s.T El)
  | .int k => C.int? k
  | .bool => C.bool?
  | .str => C.str?
  | .row t => fun c => if c.loc then rowOf m t c else none
  | .sl t => fun c => if c.own then rowOf m t c else none
  | .arr t n => C.arr? t n
  | .rol t => fun c => if c.loc then rowOf m t c else none
  | .ip t => fun c => if c.own then rowOf m t c else none
  | .gv _ => fun _ => none

def outs1 (m : List (Blk El)) : (ss : List S1) → List (C El) → Option (Ts El ss)
  | [], [] => some ()
  | s :: ss, c :: cs => (s.out m c).bind fun x => (outs1 m ss cs).bind fun y => some (x, y)
  | _, _ => none

def npOut (m : List (Blk El)) (t : Nat) (ss : List S1) : W El → Option (Ts El ss)
  | .c (.ptr id off) => if off = 0 then match m[id]? with
    | some (.st t' cs) => if t' = t then outs1 m ss cs else none
    | _ => none else none
  | _ => none
def AS.out (m : List (Blk El)) : (s : AS) → W El → Option (s.T El)
  | .c s, .c x => s.out m x
  | .agg ss, .agg xs => outs1 m ss xs
  | .io _ ss, .agg xs => outs1 m ss xs
  | .bk t, .c x => if x.own then rowOf m t x else none
  | .np t ss, y => npOut m t ss y
  | _, _ => none

def Oout (m : List (Blk El)) : (ss : List AS) → List (W El) → Option (Os El ss)
  | [], ws => match ws with
    | [] => some ()
    | _ :: _ => none
  | [s], ws => match ws with
    | [v] => s.out m v
    | _ => none
  | s :: s' :: ss, ws => match ws with
    | v :: vs => (s.out m v).bind fun x => (Oout m (s' :: ss) vs).bind fun y => some (x, y)
    | [] => none

/-- The rows that are handed out to own; those of which a view is handed out. -/
def C.src : C El → Option Nat
  | .sl id => some id
  | _ => none
def S1.srcs : S1 → C El → List (Option Nat)
  | .sl _, c | .ip _, c => [c.src]
  | _, _ => []
def srcs1 : List S1 → List (C El) → List (Option Nat)
  | s :: ss, c :: cs => s.srcs c ++ srcs1 ss cs
  | _, _ => []
def AS.srcs (m : List (Blk El)) : AS → W El → List (Option Nat)
  | .c s, .c x => s.srcs x
  | .agg ss, .agg xs => srcs1 ss xs
  | .io _ ss, .agg xs => srcs1 ss xs
  | .np _ ss, .c (.ptr id _) => match m[id]? with
    | some (.st _ cs) => srcs1 ss cs ++ [some id]
    | _ => []
  | _, _ => []
def srcsOf (m : List (Blk El)) : List AS → List (W El) → List (Option Nat)
  | s :: ss, w :: ws => s.srcs m w ++ srcsOf m ss ws
  | _, _ => []
def C.use : C El → List Nat
  | .sl id => [id]
  | .sub id .. => [id]
  | _ => []
def S1.uses : S1 → C El → List Nat
  | .row _, c | .rol _, c => c.use
  | _, _ => []
def uses1 : List S1 → List (C El) → List Nat
  | s :: ss, c :: cs => s.uses c ++ uses1 ss cs
  | _, _ => []
def AS.uses (m : List (Blk El)) : AS → W El → List Nat
  | .c s, .c x => s.uses x
  | .agg ss, .agg xs => uses1 ss xs
  | .io _ ss, .agg xs => uses1 ss xs
  | .np _ ss, .c (.ptr id _) => match m[id]? with
    | some (.st _ cs) => uses1 ss cs
    | _ => []
  | _, _ => []
def usesOf (m : List (Blk El)) : List AS → List (W El) → List Nat
  | s :: ss, w :: ws => s.uses m w ++ usesOf m ss ws
  | _, _ => []
def handsOk (ss : List (Option Nat)) (us : List Nat) : Bool := decide (ss.filterMap id).Nodup && us.all fun i => !(ss.contains (some i))

/-- A call's results at the caller; rows that it is to own become blocks. lc: whether the views among them may be handed on. -/
def enc1 (own lc : Bool) : (s : S1) → s.T El → List (Blk El) → C El × List (Blk El)
  | .sl t, l, m | .ip t, l, m => if own then (.sl m.length, m ++ [.da t l]) else (.row t l false true, m)
  | s, x, m => (s.enc x lc, m)
def enc2 (own lc : Bool) : (ss : List S1) → Ts El ss → List (Blk El) → List (C El) × List (Blk El)
  | [], _, m => ([], m)
  | s :: ss, (x, y), m => ((enc1 own lc s x m).1 :: (enc2 own lc ss y (enc1 own lc s x m).2).1, (enc2 own lc ss y (enc1 own lc s x m).2).2)
def encO (own lc : Bool) : (s : AS) → s.T El → List (Blk El) → W El × List (Blk El)
  | .c s, x, m => (.c (enc1 own lc s x m).1, (enc1 own lc s x m).2)
  | .agg ss, x, m => (.agg (enc2 own lc ss x m).1, (enc2 own lc ss x m).2)
  | .io _ ss, x, m => (.agg (enc2 own lc ss x m).1, (enc2 own lc ss x m).2)
  | .bk t, l, m => (.agg [.arr t l.length l], m)
  | .np t ss, x, m => (.c (.ptr (enc2 own lc ss x m).2.length 0), (enc2 own lc ss x m).2 ++ [.st t (enc2 own lc ss x m).1])
  | _, _, m => (.agg [], m)
def encOs (own lc : Bool) : (ss : List AS) → Os El ss → List (Blk El) → List (W El) × List (Blk El)
  | [], _, m => ([], m)
  | [s], x, m => ([(encO own lc s x m).1], (encO own lc s x m).2)
  | s :: s' :: ss, (x, y), m => ((encO own lc s x m).1 :: (encOs own lc (s' :: ss) y (encO own lc s x m).2).1, (encOs own lc (s' :: ss) y (encO own lc s x m).2).2)

def resV : List (W El) → V El
  | [x] => .w x
  | xs => .tup xs

/-! ### what a call may write: it is handed over, and comes back -/
def S1.mv : S1 → C El → List (Option Nat)
  | .ip _, c | .gv _, c => [c.src]
  | _, _ => []
def mv1 : List S1 → List (C El) → List (Option Nat)
  | s :: ss, c :: cs => s.mv c ++ mv1 ss cs
  | _, _ => []
def mvIo (m : List (Blk El)) (ss : List S1) (id : Nat) : List (Option Nat) := match m[id]? with
  | some (.st _ cs) => mv1 ss cs ++ [some id]
  | _ => []
def mvCaps (m : List (Blk El)) : List (Nat × List S1) → List (Nat × Nat) → List (Option Nat)
  | p :: ps, c :: cs => mvIo m p.2 c.1 ++ mvCaps m ps cs
  | _, _ => []
def AS.mv (m : List (Blk El)) : AS → V El → List (Option Nat)
  | .c s, .w (.c x) => s.mv x
  | .agg ss, .w (.agg xs) => mv1 ss xs
  | .io _ ss, .w (.c (.ptr id _)) => mvIo m ss id
  | .fnp _ caps, .w (.c (.fn _ cs)) => mvCaps m caps cs
  | _, _ => []
def mvs (m : List (Blk El)) : List AS → List (V El) → List (Option Nat)
  | s :: ss, v :: vs => s.mv m v ++ mvs m ss vs
  | _, _ => []
/-- What a call reads alone. -/
def S1.us : S1 → C El → List Nat
  | .row _, c | .sl _, c => c.use
  | _, _ => []
def us1 : List S1 → List (C El) → List Nat
  | s :: ss, c :: cs => s.us c ++ us1 ss cs
  | _, _ => []
def usIo (m : List (Blk El)) (ss : List S1) (id : Nat) : List Nat := match m[id]? with
  | some (.st _ cs) => us1 ss cs
  | _ => []
def usCaps (m : List (Blk El)) : List (Nat × List S1) → List (Nat × Nat) → List Nat
  | p :: ps, c :: cs => usIo m p.2 c.1 ++ usCaps m ps cs
  | _, _ => []
def C.puse : C El → List Nat
  | .ptr id _ => [id]
  | .pda id .. => [id]
  | _ => []
def AS.us (m : List (Blk El)) : AS → V El → List Nat
  | .c s, .w (.c x) => s.us x
  | .agg ss, .w (.agg xs) => us1 ss xs
  | .ptr _, .w (.c x) => x.puse
  | .io _ ss, .w (.c (.ptr id _)) => usIo m ss id
  | .fnp _ caps, .w (.c (.fn _ cs)) => usCaps m caps cs
  | _, _ => []
def usOf (m : List (Blk El)) : List AS → List (V El) → List Nat
  | s :: ss, v :: vs => s.us m v ++ usOf m ss vs
  | _, _ => []
/-- Whether the views that are handed over may be handed on. -/
def S1.lc : S1 → C El → Bool
  | .rol _, .row _ _ _ loc => loc
  | _, _ => true
def lc1 : List S1 → List (C El) → Bool
  | s :: ss, c :: cs => s.lc c && lc1 ss cs
  | _, _ => true
def lcIo (m : List (Blk El)) (ss : List S1) (id : Nat) : Bool := match m[id]? with
  | some (.st _ cs) => lc1 ss cs
  | _ => true
def lcCaps (m : List (Blk El)) : List (Nat × List S1) → List (Nat × Nat) → Bool
  | p :: ps, c :: cs => lcIo m p.2 c.1 && lcCaps m ps cs
  | _, _ => true
def AS.lc (m : List (Blk El)) : AS → V El → Bool
  | .c s, .w (.c x) => s.lc x
  | .agg ss, .w (.agg xs) => lc1 ss xs
  | .io _ ss, .w (.c (.ptr id _)) => lcIo m ss id
  | .fnp _ caps, .w (.c (.fn _ cs)) => lcCaps m caps cs
  | _, _ => true
def lcOf (m : List (Blk El)) : List AS → List (V El) → Bool
  | s :: ss, v :: vs => s.lc m v && lcOf m ss vs
  | _, _ => true
/-- What comes back, and as which blocks. -/
def S1.bkS : S1 → List AS
  | .ip t => [.bk t]
  | _ => []
def bkS1 : List S1 → List AS
  | [] => []
  | s :: ss => s.bkS ++ bkS1 ss
def bkCaps : List (Nat × List S1) → List AS
  | [] => []
  | p :: ps => .io p.1 p.2 :: bkCaps ps
def AS.bkS : AS → List AS
  | .c s => s.bkS
  | .agg ss => bkS1 ss
  | .io t ss => [.io t ss]
  | .fnp _ caps => bkCaps caps
  | _ => []
def bkSs : List AS → List AS
  | [] => []
  | s :: ss => s.bkS ++ bkSs ss
def S1.bki : S1 → C El → List (Option Nat)
  | .ip _, c => [c.src]
  | _, _ => []
def bki1 : List S1 → List (C El) → List (Option Nat)
  | s :: ss, c :: cs => s.bki c ++ bki1 ss cs
  | _, _ => []
def AS.bkI : AS → V El → List (Option Nat)
  | .c s, .w (.c x) => s.bki x
  | .agg ss, .w (.agg xs) => bki1 ss xs
  | .io _ _, .w (.c (.ptr id _)) => [some id]
  | .fnp _ _, .w (.c (.fn _ cs)) => cs.map fun c => some c.1
  | _, _ => []
def bkIs : List AS → List (V El) → List (Option Nat)
  | s :: ss, v :: vs => s.bkI v ++ bkIs ss vs
  | _, _ => []
def bkW (m : List (Blk El)) : AS → Option Nat → Option (W El)
  | .io t _, some k => match m[k]? with
    | some (.st t' cs) => if t' = t then some (.agg cs) else none
    | _ => none
  | .bk _, some k => some (.c (.sl k))
  | .bk _, none => some (.c (.sc (.slice none 0 0)))
  | _, _ => none
def bkWs (m : List (Blk El)) : List AS → List (Option Nat) → Option (List (W El))
  | [], [] => some []
  | s :: ss, i :: is => (bkW m s i).bind fun w => (bkWs m ss is).bind fun ws => some (w :: ws)
  | _, _ => none
def bkBlk : AS → W El → Blk El
  | .io t _, .agg cs => .st t cs
  | .bk _, .agg [.arr t _ l] => .da t l
  | _, _ => .dead
def bkBlks : List AS → List (W El) → List (Blk El)
  | s :: ss, w :: ws => bkBlk s w :: bkBlks ss ws
  | _, _ => []
def kill (m : List (Blk El)) : List (Option Nat) → List (Blk El)
  | [] => m
  | some i :: is => kill (m.set i .dead) is
  | none :: is => kill m is
def putBk (m : List (Blk El)) : List (Option Nat) → List (Blk El) → List (Blk El)
  | some i :: is, b :: bs => putBk (m.set i b) is bs
  | none :: is, _ :: bs => putBk m is bs
  | _, _ => m

/-- What is known of a function: its arguments, its results, the plain function; behind the results stands what comes back. -/
structure Con (El : Nat → Type) where
  ins : List AS
  outs : List AS
  plain : Nat → ASs El ins → Option (Os El (outs ++ bkSs ins))

def isNp : AS → Bool
  | .np .. => true
  | _ => false
def S1.isGv : S1 → Bool
  | .gv _ => true
  | _ => false
def AS.isGv : AS → Bool
  | .c s => s.isGv
  | .agg ss => ss.any S1.isGv
  | _ => false
def Con.quiet {El : Nat → Type} (c : Con El) : Bool := (bkSs c.ins).isEmpty && !(c.outs.any isNp) && !(c.ins.any AS.isGv)
/-- A function that is handed a function has a contract for each of these. -/
def fnIn : List (V El) → Nat
  | [] => 0
  | .w (.c (.fn g _)) :: _ => g + 1
  | _ :: vs => fnIn vs
def keyOf (f : Nat) (vs : List (V El)) : Nat := f + 65536 * fnIn vs

/-! ### operations -/

def W.v : W El → V El := .w

section
variable (G : Cfg) (con : Nat → Option (Con G.U.El)) (n : Nat)

/-- An element's cells of a size from an offset on. -/
def elemAt (t : Nat) (x : G.U.El t) (off size : Nat) : Option (List (C G.U.El)) :=
  if off + size ≤ G.U.sz t then some ((((G.U.cells t x).drop off).take size).map .sc) else none

def aIndexAddr (t : Nat) (x i : V G.U.El) (m : List (Blk G.U.El)) (K : W G.U.El → Option ρ) : Option ρ :=
  match i with
  | .w (.c (.sc (.int _ i))) =>
    match G.tyOf t, x with
    | some (.sl e), .w (.c (.row t' l _ _)) => if e = t' then cond (decide (0 ≤ i)) (cond (decide (i < (l.length : Int))) (K (.c (.prow t' l i.toNat 0))) none) none else none
    | some (.sl e), .w (.c (.sl id)) => match m[id]? with
      | some (.da t' l) => if e = t' then cond (decide (0 ≤ i)) (cond (decide (i < (l.length : Int))) (K (.c (.pda id t' i.toNat 0))) none) none else none
      | _ => none
    | some (.sl e), .w (.c (.sub id t' off len)) => if e = t' then cond (decide (0 ≤ i)) (cond (decide (i < (len : Int))) (K (.c (.pda id t' (off + i.toNat) 0))) none) none else none
    | some (.arr k e), .w (.c (.ptr id off)) => cond (decide (0 ≤ i)) (cond (decide (i < (k : Int))) (K (.c (.parr id e k off i.toNat 0))) none) none
    | some (.slf _), .w (.c (.fsl id n)) => cond (decide (0 ≤ i)) (cond (decide (i < (n : Int))) (K (.c (.ptr id i.toNat))) none) none
    | _, _ => none
  | _ => none

def aIndex (t : Nat) (x i : V G.U.El) (K : W G.U.El → Option ρ) : Option ρ :=
  match G.tyOf t, x, i with
  | some .str, .w (.c (.sc (.string s))), .w (.c (.sc (.int _ i))) =>
    cond (decide (0 ≤ i)) (cond (decide (i < (s.size : Int))) (K (int .u8 (bt s i.toNat))) none) none
  | some (.arr k' e'), .w (.agg [.arr e k l]), .w (.c (.sc (.int _ i))) =>
    match G.ti e with
    | some x => cond (decide (0 ≤ i)) (cond (decide (i < (k' : Int))) (if k' = k then if e' = e then
        ((elemAt G e (rd (G.U.dflt e) l i.toNat) 0 x.size).bind (mkW x)).elim none K else none else none) none) none
    | none => none
  | _, _, _ => none

def aLoad (t : Nat) (a : V G.U.El) (m : List (Blk G.U.El)) (K : W G.U.El → Option ρ) : Option ρ :=
  match G.ti t with
  | none => none
  | some x =>
    match a with
    | .w (.c (.ptr id off)) => match m[id]? with
      | some (.st _ cs) => ((getAt G.U cs off x.size).bind (mkW x)).elim none K
      | _ => none
    | .w (.c (.pda id t' i off)) => match m[id]? with
      | some (.da e l) => if t' = e then ((elemAt G e (rd (G.U.dflt e) l i) off x.size).bind (mkW x)).elim none K else none
      | _ => none
    | .w (.c (.prow e l i off)) => ((elemAt G e (rd (G.U.dflt e) l i) off x.size).bind (mkW x)).elim none K
    | .w (.c (.parr id e' n f i off)) => match m[id]? with
      | some (.st _ cs) => match dropW G.U cs f with
        | some (.arr e n' l :: _) => if e' = e then if n' = n then ((elemAt G e (rd (G.U.dflt e) l i) off x.size).bind (mkW x)).elim none K else none else none
        | _ => none
      | _ => none
    | _ => none

def setElem (t : Nat) (l : List (G.U.El t)) (i off : Nat) (vs : List Value) : Option (List (G.U.El t)) :=
  if off + vs.length ≤ G.U.sz t then
    (G.U.back t ((G.U.cells t (rd (G.U.dflt t) l i)).take off ++ (vs ++ (G.U.cells t (rd (G.U.dflt t) l i)).drop (off + vs.length)))).map fun y => l.set i y
  else none

def setBlk (m : List (Blk G.U.El)) (id : Nat) (b : Blk G.U.El) : List (Blk G.U.El) := m.set id b

def aStore (t : Nat) (a v : V G.U.El) (m : List (Blk G.U.El)) : Option (List (Blk G.U.El)) :=
  match G.ti t, v with
  | some x, .w v =>
    match a with
    | .w (.c (.ptr id off)) => match m[id]? with
      | some (.st t' cs) => if widths G.U v.cells = x.size then (putAt G.U cs off x.size v.cells).map fun cs' => m.set id (.st t' cs') else none
      | _ => none
    | .w (.c (.pda id t' i off)) => match m[id]? with
      | some (.da e l) => if t' = e then (scs v.cells).bind fun vs => if vs.length = x.size then (setElem G e l i off vs).map fun l' => m.set id (.da e l') else none else none
      | _ => none
    | .w (.c (.parr id e' n f i off)) => match m[id]? with
      | some (.st t' cs) => match takeW G.U cs f, dropW G.U cs f with
        | some a, some (.arr e k l :: b) => if e' = e then if k = n then (scs v.cells).bind fun vs => if vs.length = x.size then (setElem G e l i off vs).map fun l' => m.set id (.st t' (a ++ .arr e k l' :: b)) else none else none else none
        | _, _ => none
      | _ => none
    | _ => none
  | _, _ => none

def fieldOf (t f : Nat) : Option (Nat × Nat) :=
  match G.tyOf t with
  | some (.st fs) => fs[f]?
  | _ => none

def aFieldAddr (t f : Nat) (x : V G.U.El) (K : W G.U.El → Option ρ) : Option ρ :=
  match fieldOf G t f with
  | none => none
  | some (o, ft) => if ((G.ti ft).map TI.size).getD 0 = 0 then none else match x with
    | .w (.c (.ptr id off)) => K (.c (.ptr id (off + o)))
    | .w (.c (.pda id t i off)) => K (.c (.pda id t i (off + o)))
    | .w (.c (.parr id e n g i off)) => K (.c (.parr id e n g i (off + o)))
    | .w (.c (.prow e l i off)) => K (.c (.prow e l i (off + o)))
    | _ => none

def aField (t f : Nat) (x : V G.U.El) (K : W G.U.El → Option ρ) : Option ρ :=
  match fieldOf G t f, x with
  | some (o, ft), .w (.agg cs) => match G.ti ft with
    | some y => ((getAt G.U cs o y.size).bind (mkW y)).elim none K
    | none => none
  | _, _ => none

def aFill (fs : List (Nat × Nat)) : List (Nat × V G.U.El) → List (C G.U.El) → Option (List (C G.U.El))
  | [], cs => some cs
  | (i, .w v) :: ps, cs => match fs[i]? with
    | some (o, ft) => match G.ti ft with
      | some y => if widths G.U v.cells = y.size then (putAt G.U cs o y.size v.cells).bind (aFill fs ps) else none
      | none => none
    | none => none
  | _ :: _, _ => none

def aBuild (t : Nat) (parts : List (Nat × V G.U.El)) (K : W G.U.El → Option ρ) : Option ρ :=
  match G.ti t with
  | some x => match x.ty with
    | .st fs => (aFill G fs parts (zeroC G.U x.zero)).elim none fun cs => K (.agg cs)
    | _ => none
  | none => none

/-- The elements of a row that is made of parts. -/
def litFill (e : Nat) : List (Nat × V G.U.El) → List (G.U.El e) → Option (List (G.U.El e))
  | [], l => some l
  | (i, .w v) :: ps, l => if i < l.length then (scs v.cells).bind fun vs => if vs.length = G.U.sz e then (G.U.back e vs).bind fun y => litFill e ps (l.set i y) else none else none
  | _ :: _, _ => none

def aBuildSlice (own : Bool) (t len : Nat) (parts : List (Nat × V G.U.El)) (m : List (Blk G.U.El)) (K : W G.U.El → List (Blk G.U.El) → Option ρ) : Option ρ :=
  match G.tyOf t with
  | some (.sl e) => match if len * G.U.sz e ≤ 16777216 then litFill G e parts (List.replicate len (G.U.dflt e)) else none with
    | some l => if own then K (.c (.sl m.length)) (m ++ [.da e l]) else K (.c (.row e l true true)) m
    | none => none
  | _ => none

/-- A slice of functions. -/
def fnParts : List (Nat × V G.U.El) → Nat → Option (List (C G.U.El))
  | [], _ => some []
  | (i, .w (.c (.fn f caps))) :: ps, k => if i = k then (fnParts ps (k + 1)).map (.fn f caps :: ·) else none
  | (i, .w (.c (.bfn f a b))) :: ps, k => if i = k then (fnParts ps (k + 1)).map (.bfn f a b :: ·) else none
  | _ :: _, _ => none
def fnSl (t : Nat) : Bool := match G.tyOf t with
  | some (.slf _) => true
  | _ => false
def aBuildFns (own : Bool) (t len : Nat) (parts : List (Nat × V G.U.El)) (m : List (Blk G.U.El)) (K : W G.U.El → List (Blk G.U.El) → Option ρ) : Option ρ :=
  match G.tyOf t, fnParts G parts 0 with
  | some (.slf e), some cs => if own = true ∧ cs.length = len ∧ 0 < len ∧ len ≤ 1000 then K (.c (.fsl m.length len)) (m ++ [.st e cs]) else none
  | _, _ => none

def aMakeSlice (own : Bool) (t : Nat) (len cap : V G.U.El) (m : List (Blk G.U.El)) (K : W G.U.El → List (Blk G.U.El) → Option ρ) : Option ρ :=
  match G.tyOf t, len, cap with
  | some (.sl e), .w (.c (.sc (.int .i64 a))), .w (.c (.sc (.int .i64 b))) => match G.ti e with
    | some x => cond (decide (0 ≤ a)) (cond (decide (a ≤ b)) (cond (decide (x.bytes * b ≤ 140737488355328))
        (if own then K (.c (.sl m.length)) (m ++ [.da e (List.replicate a.toNat (G.U.dflt e))]) else K (.c (.row e (List.replicate a.toNat (G.U.dflt e)) false true)) m) none) none) none
    | none => none
  | _, _, _ => none

def natOf : Option (V El) → Nat → (Nat → Option ρ) → Option ρ
  | none, d, K => K d
  | some (.w (.c (.sc (.int _ i)))), _, K => cond (decide (0 ≤ i)) (K i.toNat) none
  | _, _, _ => none

def aSlice (t : Nat) (x : V G.U.El) (lo hi mx : Option (V G.U.El)) (m : List (Blk G.U.El)) (K : W G.U.El → Option ρ) : Option ρ :=
  match G.tyOf t, x, mx with
  | some .str, .w (.c (.sc (.string s))), none => natOf hi s.size fun h => cond (decide (h ≤ s.size)) (natOf lo 0 fun l => cond (decide (l ≤ h)) (K (str (s.extract l h))) none) none
  | some (.sl e), .w (.c (.row e' r tight loc)), none => if e = e' then natOf hi r.length fun h => cond (decide (h ≤ r.length)) (natOf lo 0 fun l => cond (decide (l ≤ h))
      (match hi with
        | none => K (.c (.row e' (r.drop l) tight loc))
        | some _ => K (.c (.row e' ((r.take h).drop l) false loc))) none) none else none
  | some (.sl e), .w (.c (.row e' _ _ loc)), some (.w (.c (.sc (.int _ 0)))) => if e = e' then match lo, hi with
      | none, some (.w (.c (.sc (.int _ 0)))) => K (.c (.row e' [] true loc))
      | _, _ => none else none
  | some (.sl e), .w (.c (.sl id)), none => match m[id]? with
    | some (.da t' r) => if e = t' then natOf hi r.length fun h => cond (decide (h ≤ r.length)) (natOf lo 0 fun l => cond (decide (l ≤ h)) (K (.c (.sub id t' l (h - l)))) none) none else none
    | _ => none
  | _, _, _ => none

def aLen (t : Nat) (x : V G.U.El) (m : List (Blk G.U.El)) (K : W G.U.El → Option ρ) : Option ρ :=
  match G.tyOf t, x with
  | some .str, .w (.c (.sc (.string s))) => K (int .i64 (s.size : Int))
  | some (.sl _), .w (.c (.row _ l _ _)) => K (int .i64 (l.length : Int))
  | some (.sl _), .w (.c (.sub _ _ _ n)) => K (int .i64 (n : Int))
  | some (.sl _), .w (.c (.sl id)) => match m[id]? with
    | some (.da _ l) => K (int .i64 (l.length : Int))
    | _ => none
  | some (.sl _), .w (.c (.sc (.slice none 0 0))) => K (int .i64 0)
  | some (.slf _), .w (.c (.fsl _ n)) => K (int .i64 (n : Int))
  | _, _ => none

def byteOf : List Value → UInt8
  | [.int _ n] => UInt8.ofNat n.toNat
  | _ => 0

def aConvert (src dst : Nat) (x : V G.U.El) (m : List (Blk G.U.El)) (K : W G.U.El → Option ρ) : Option ρ :=
  match G.tyOf src, G.tyOf dst, x with
  | some _, some (.int k), .w (.c (.sc (.int _ n))) => K (int k (k.wrap n))
  | some _, some .str, .w (.c (.sc (.string s))) => K (str s)
  | some (.sl e), some .str, .w (.c r) => if (G.U.ent e).k = some .u8 then match G.tyOf e, rowOf m e r with
      | some (.int .u8), some l => K (str ⟨(l.map fun y => byteOf (G.U.cells e y)).toArray⟩)
      | _, _ => none else none
  | _, _, _ => none

/-- append: what is appended is a slice. -/
def aAppend (t : Nat) (s x : V G.U.El) (m : List (Blk G.U.El)) (K : W G.U.El → List (Blk G.U.El) → Option ρ) : Option ρ :=
  match G.tyOf t, s, x with
  | some (.sl e), .w (.c s), .w (.c x) => match rowOf m e x, G.ti e with
    | some new, some y => match s with
      | .sl id => match m[id]? with
        | some (.da e' l) => if h : e' = e then cond (decide ((l.length + new.length) * y.bytes ≤ 140737488355328))
            (K (.c (.sl m.length)) (m.set id .dead ++ [.da e ((h ▸ l) ++ new)])) none else none
        | _ => none
      | .row e' l true loc => if h : e' = e then cond (decide (0 < new.length)) (cond (decide ((l.length + new.length) * y.bytes ≤ 140737488355328))
            (K (.c (.sl m.length)) (m ++ [.da e ((h ▸ l) ++ new)])) none) (K (.c (.row e' l true loc)) m) else none
      | .sc (.slice none 0 0) => cond (decide (new.length * y.bytes ≤ 140737488355328)) (K (.c (.sl m.length)) (m ++ [.da e new])) none
      | _ => none
    | _, _ => none
  | _, _, _ => none

def ptrsOf (caps : List (Nat × Nat)) : List (V El) := caps.map fun p => .w (.c (.ptr p.1 p.2))

def capsOf : List (V El) → Option (List (Nat × Nat))
  | [] => some []
  | .w (.c (.ptr a b)) :: vs => (capsOf vs).map ((a, b) :: ·)
  | _ => none

/-- What is called, with what. -/
def calleeOf (v : V G.U.El) (args : List (V G.U.El)) : Option (Nat × List (V G.U.El)) := match v with
  | .w (.c (.fn f caps)) => some (f, args ++ ptrsOf caps)
  | .w (.c (.bfn f a b)) => some (f, .w (.c (.ptr a b)) :: args)
  | _ => none
def bound (f : Nat) : List (V El) → Option (C El)
  | [.w (.c (.ptr a b))] => some (.bfn f a b)
  | _ => none

def ownD (dst : Option Nat) : Bool := match dst with | some d => G.own.contains d | none => false
def callOk (c : Con G.U.El) (f : Nat) (m : List (Blk G.U.El)) (args : List (V G.U.El)) : Bool :=
  Nat.blt f 65536 && (c.quiet || G.ios.contains f) && (decide ((mvs m c.ins args).filterMap id).Nodup && (usOf m c.ins args).all fun i => !((mvs m c.ins args).contains (some i)))
def aCall (dst : Option Nat) (f : Nat) (args : List (V G.U.El)) (m : List (Blk G.U.El)) (K : V G.U.El → List (Blk G.U.El) → Option ρ) : Option ρ :=
  match con (keyOf f args) with
  | none => none
  | some c => match ASdec G.U m c.ins args with
    | none => none
    | some x => if callOk G c f m args then (c.plain n x).bind fun y =>
        let r := encOs (ownD G dst || !c.quiet) (lcOf m c.ins args) (c.outs ++ bkSs c.ins) y (kill m (mvs m c.ins args))
        K (resV (r.1.take c.outs.length)) (putBk r.2 (bkIs c.ins args) (bkBlks (bkSs c.ins) (r.1.drop c.outs.length)))
      else none

def aMinMax (mn : Bool) (x y : V G.U.El) (K : W G.U.El → Option ρ) : Option ρ :=
  match x, y with
  | .w (.c (.sc (.int k a))), .w (.c (.sc (.int k' b))) => if k = k' then K (int k (if mn then min a b else max a b)) else none
  | _, _ => none

def aOp (o : Oper) (e : Nat → V G.U.El) (m : List (Blk G.U.El)) (K : V G.U.El → List (Blk G.U.El) → Option ρ) : Option ρ :=
  let k1 : W G.U.El → Option ρ := fun w => K (.w w) m
  let k2 : W G.U.El → List (Blk G.U.El) → Option ρ := fun w m => K (.w w) m
  let v := opv e
  match o.op with
  | .move x | .assign x => K (v x) m
  | .pick c a b => match v c with
    | .w (.c (.sc (.bool t))) => cond t (K (v a) m) (K (v b) m)
    | _ => none
  | .alloc t => match G.ti t with
    | some x => K (.w (.c (.ptr m.length 0))) (m ++ [.st t (zeroC G.U x.zero)])
    | none => none
  | .box t x => match v x, G.ti t with
    | .w w, some y => if widths G.U w.cells = y.size then K (.w (.c (.ptr m.length 0))) (m ++ [.st t w.cells]) else none
    | _, _ => none
  | .build t ps => aBuild G t (ps.toList.map fun p => (p.1, v p.2)) k1
  | .buildSlice t len ps => if fnSl G t = true then aBuildFns G (ownD G o.dst) t len (ps.toList.map fun p => (p.1, v p.2)) m k2 else aBuildSlice G (ownD G o.dst) t len (ps.toList.map fun p => (p.1, v p.2)) m k2
  | .load t a => aLoad G t (v a) m k1
  | .store t a x => match aStore G t (v a) (v x) m with
    | some m' => K .und m'
    | none => none
  | .nilCheck x => match v x with
    | .w (.c (.ptr a b)) => k1 (.c (.ptr a b))
    | .w (.c (.pda a b c d)) => k1 (.c (.pda a b c d))
    | .w (.c (.prow a b c d)) => k1 (.c (.prow a b c d))
    | .w (.c (.fn f cs)) => k1 (.c (.fn f cs))
    | _ => none
  | .binOp op t x y _ => aBin G.U G.ti op t (v x) (v y) k1
  | .unOp op _ x => aUn op (v x) k1
  | .convert s d x => aConvert G s d (v x) m k1
  | .makeFunc (.func f) first caps => if first.size = 0 then match capsOf (caps.toList.map v) with
      | some cs => k1 (.c (.fn f cs))
      | none => none else if caps.size = 0 then match bound f (first.toList.map v) with
      | some x => k1 (.c x)
      | none => none else none
  | .makeSlice t a b => aMakeSlice G (ownD G o.dst) t (v a) (v b) m k2
  | .slice t x lo hi mx => aSlice G t (v x) (lo.map v) (hi.map v) (mx.map v) m k1
  | .fieldAddr t x f => aFieldAddr G t f (v x) k1
  | .field t x f => aField G t f (v x) k1
  | .indexAddr t x i => aIndexAddr G t (v x) (v i) m k1
  | .index t x i => aIndex G t (v x) (v i) k1
  | .extract t i => match v t with
    | .tup ws => match ws[i]? with
      | some w => k1 w
      | none => none
    | _ => none
  | .call c => match c.callee with
    | .builtin .len => match c.argTypes.toList, c.args.toList with
      | [t], [x] => aLen G t (v x) m k1
      | _, _ => none
    | .builtin .append => match c.argTypes.toList, c.args.toList with
      | [t, t'], [s, x] => if t' = t then aAppend G t (v s) (v x) m k2 else none
      | _, _ => none
    | .builtin .min => match c.args.toList with
      | [x, y] => aMinMax G true (v x) (v y) k1
      | _ => none
    | .builtin .max => match c.args.toList with
      | [x, y] => aMinMax G false (v x) (v y) k1
      | _ => none
    | .value f => match calleeOf G (v f) (c.args.toList.map v) with
      | some p => aCall G con n o.dst p.1 p.2 m K
      | none => none
    | _ => none
  | _ => none

def dstOk (N : Nat) (pins : List Nat) : Option Nat → Bool
  | none => true
  | some d => Nat.blt d N && !(pins.contains d)

/-- One operation of a region: its guard is asked first. -/
def aOper (ops : List Oper) (o : Oper) (σ : St G.U.El) (K : St G.U.El → Option ρ) : Option ρ :=
  if dstOk G.ntmps G.pins o.dst then match o.guard with
  | none => aOp G con n o σ.env σ.mem fun v m => K ⟨upd σ.env o.dst v, m⟩
  | some (j, want) => match (ops[j]?).bind (·.dst) with
    | none => none
    | some t => if Nat.blt t G.ntmps && !(G.pins.contains t) then match σ.env t with
      | .und => K ⟨upd σ.env o.dst .und, σ.mem⟩
      | .w (.c (.sc (.bool b))) =>
        cond b
          (if want then aOp G con n o (upd σ.env (some t) (.w (bool true))) σ.mem fun v m => K ⟨upd (upd σ.env (some t) (.w (bool true))) o.dst v, m⟩ else K ⟨upd (upd σ.env (some t) (.w (bool true))) o.dst .und, σ.mem⟩)
          (if want then K ⟨upd (upd σ.env (some t) (.w (bool false))) o.dst .und, σ.mem⟩ else aOp G con n o (upd σ.env (some t) (.w (bool false))) σ.mem fun v m => K ⟨upd (upd σ.env (some t) (.w (bool false))) o.dst v, m⟩)
      | _ => none else none
  else none

/-- 0: temporaries alone; 1: reads memory; 2: makes blocks; 3: writes. -/
def opKind (o : Oper) : Nat :=
  let own := ownD G o.dst
  match o.op with
  | .alloc _ | .box .. => 2
  | .buildSlice .. | .makeSlice .. => if own then 2 else 0
  | .store .. => 3
  | .load .. | .convert .. | .slice .. | .indexAddr .. => 1
  | .call c => match c.callee with
    | .builtin .len => 1
    | .builtin .append => 3
    | .builtin _ => 0
    | .value (.func f) => if G.ios.contains f then 3 else if own then 2 else 1
    | .value _ => if G.ios.isEmpty then (if own then 2 else 1) else 3
    | _ => if own then 2 else 1
  | _ => 0

def pick1 (ks : List Nat) (bs : List Nat) (done : Nat) : Nat → Option Nat → Option Nat
  | 0, d => d
  | i + 1, d =>
    let j := ks.length - (i + 1)
    if done.testBit j then pick1 ks bs done i d
    else if (bs.getD j 0) &&& done = bs.getD j 0 then
      if ks.getD j 3 ≤ 1 then some j else pick1 ks bs done i (match d with | none => some j | d => d)
    else pick1 ks bs done i d

/-- An order of a region's operations that puts what makes or writes blocks last. -/
def orderOf (ks bs : List Nat) : Nat → Nat → List Nat
  | 0, _ => []
  | k + 1, done => match pick1 ks bs done ks.length none with
    | some i => i :: orderOf ks bs k (done ||| 2 ^ i)
    | none => []

def pairOk (ops : Array Oper) (ks bs : List Nat) (x y : Nat) : Bool :=
  !(bs.getD x 0).testBit y && ((bs.getD y 0).testBit x ||
    (let k := ks.getD x 3; Nat.ble k 1 && (k == 0 || Nat.ble (ks.getD y 3) 2)) &&
    match ops[x]?, ops[y]? with
    | some a, some b => a.apart ops b
    | _, _ => false)

def pairsOk (ops : Array Oper) (ks bs : List Nat) : List Nat → Bool
  | [] => true
  | x :: xs => xs.all (pairOk ops ks bs x) && !xs.contains x && pairsOk ops ks bs xs

def edgeBits (bs : List Nat) : List Edge → Nat
  | [] => 0
  | e :: es => (if Region.binds .any e then 2 ^ e.on ||| bs.getD e.on 0 else 0) ||| edgeBits bs es

def bsOk (ops : Array Oper) (bs : List Nat) : Bool := (List.range ops.size).all fun i => match ops[i]? with
  | some o => Nat.beq (bs.getD i 0) (edgeBits bs o.after.toList) && o.after.toList.all (fun e => !Region.binds .any e || Nat.blt e.on i)
  | none => false

def regionOrder (ops : Array Oper) (draw : Bool) : Option (List Nat) :=
  if draw then
    let ks := ops.toList.map (opKind G); let bs := (Region.before ops).toList
    let o := orderOf ks bs ks.length 0
    if o.length = ops.size && pairsOk ops ks bs o && o.all (Nat.blt · ops.size) && bsOk ops bs then some o else none
  else some (List.range ops.size)

/-- Two makers of blocks that may stand either way. -/
def pairOkX (x y : Nat) (ops : Array Oper) (ks bs : List Nat) (i j : Nat) : Bool := pairOk ops ks bs i j || (Nat.beq i x && (Nat.beq j y || (bs.getD j 0).testBit y) && !(bs.getD x 0).testBit j)
def pairsOkX (x y : Nat) (ops : Array Oper) (ks bs : List Nat) : List Nat → Bool
  | [] => true
  | i :: is => is.all (pairOkX x y ops ks bs i) && !is.contains i && pairsOkX x y ops ks bs is
def check2 (ops : Array Oper) (x y : Nat) (A B : List Nat) : Bool :=
  let ks := ops.toList.map (opKind G)
  let bs := (Region.before ops).toList
  Nat.beq A.length ops.size && Nat.beq B.length ops.size && pairsOkX x y ops ks bs A && pairsOkX y x ops ks bs B && A.all (Nat.blt · ops.size) && B.all (Nat.blt · ops.size) && bsOk ops bs && A.contains x && A.contains y && !Nat.beq x y
def pairsBy (p : Nat → Nat → Bool) : List Nat → Bool
  | [] => true
  | i :: is => is.all (p i) && !is.contains i && pairsBy p is
/-- x may stand ahead of y, between y and z, or behind z; z hangs on y. -/
def check3 (ops : Array Oper) (x y z : Nat) (A B C : List Nat) : Bool :=
  let ks := ops.toList.map (opKind G)
  let bs := (Region.before ops).toList
  pairsOkX x y ops ks bs A && pairsBy (fun i j => pairOkX y x ops ks bs i j || pairOkX x z ops ks bs i j) B && pairsBy (fun i j => pairOkX y x ops ks bs i j || pairOkX z x ops ks bs i j) C &&
    (Nat.beq A.length ops.size && Nat.beq B.length ops.size && Nat.beq C.length ops.size && A.all (Nat.blt · ops.size) && B.all (Nat.blt · ops.size) && C.all (Nat.blt · ops.size)) && bsOk ops bs && (A.contains x && A.contains y && A.contains z) && (!Nat.beq x y && !Nat.beq x z && !Nat.beq y z) && (bs.getD z 0).testBit y
def order2 (ops : Array Oper) : Option ((Nat × Nat) × (List Nat × List Nat)) :=
  let ks := ops.toList.map (opKind G)
  let bs := (Region.before ops).toList
  let ids := (List.range ops.size).filter fun i => Nat.ble 1 (ks.getD i 0)
  let ord := fun x y => orderOf ks (bs.set y (bs.getD y 0 ||| 2 ^ x)) ks.length 0
  ((ids.flatMap fun x => (ids.filter fun y => Nat.blt x y && Nat.ble 4 (ks.getD x 0 + ks.getD y 0) && !(bs.getD x 0).testBit y && !(bs.getD y 0).testBit x).map fun y => ((x, y), (ord x y, ord y x))).find? fun p => check2 G ops p.1.1 p.1.2 p.2.1 p.2.2)

def aOps (ops : List Oper) : List Nat → St G.U.El → (St G.U.El → Option ρ) → Option ρ
  | [], σ, K => K σ
  | i :: is, σ, K => match ops[i]? with
    | none => none
    | some o => aOper G con n ops o σ fun σ => aOps ops is σ K

inductive Ex where
  | normal | ret
  | exit (id : Nat)

abbrev Kt (U : Univ) (ρ : Type) := Nat → Ex → St U.El → Option ρ

/-! ### loops: what stands at a loop's head -/
inductive LS1 where
  | int (k : IntKind) | bool | str | row (t : Nat) (loc : Bool) | arr (t n : Nat)
  | sl (id : Nat) | ptr (id off : Nat) | fn (f : Nat) (caps : List (Nat × Nat)) | prow (t off : Nat)
inductive LS where
  | c (s : LS1) | agg (ss : List LS1)
inductive BS where
  | st (t : Nat) (ss : List LS1)
  | da (t : Nat)
structure Shape where
  env : List (Nat × LS)
  mem : List BS

def LS1.T (El : Nat → Type) : LS1 → Type
  | .int _ => Int
  | .bool => Bool
  | .str => ByteArray
  | .row t _ | .arr t _ => List (El t)
  | .prow t _ => El t
  | _ => Unit
def LTs (El : Nat → Type) : List LS1 → Type
  | [] => Unit
  | s :: ss => s.T El × LTs El ss
def LS.T (El : Nat → Type) : LS → Type
  | .c s => s.T El
  | .agg ss => LTs El ss
def LEs (El : Nat → Type) : List (Nat × LS) → Type
  | [] => Unit
  | p :: ps => p.2.T El × LEs El ps
def BS.T (El : Nat → Type) : BS → Type
  | .st _ ss => LTs El ss
  | .da t => List (El t)
def BTs (El : Nat → Type) : List BS → Type
  | [] => Unit
  | b :: bs => b.T El × BTs El bs
def Shape.X (El : Nat → Type) (s : Shape) : Type := LEs El s.env × BTs El s.mem

def LS1.enc : (s : LS1) → s.T El → C El
  | .int k, n => .sc (.int k n)
  | .bool, b => .sc (.bool b)
  | .str, s => .sc (.string s)
  | .row t loc, l => .row t l false loc
  | .arr t n, l => .arr t n l
  | .sl id, _ => .sl id
  | .ptr id off, _ => .ptr id off
  | .fn f caps, _ => .fn f caps
  | .prow t off, x => .prow t [x] 0 off
def Lencs : (ss : List LS1) → LTs El ss → List (C El)
  | [], _ => []
  | s :: ss, (x, y) => s.enc x :: Lencs ss y
def LS.enc : (s : LS) → s.T El → V El
  | .c s, x => .w (.c (s.enc x))
  | .agg ss, x => .w (.agg (Lencs ss x))
def envOf : (ps : List (Nat × LS)) → LEs El ps → Nat → V El
  | [], _, _ => .un
  | p :: ps, (x, y), t => cond (Nat.beq t p.1) (p.2.enc x) (envOf ps y t)
def BS.enc : (b : BS) → b.T El → Blk El
  | .st t ss, x => .st t (Lencs ss x)
  | .da t, l => .da t l
def memOf : (bs : List BS) → BTs El bs → List (Blk El)
  | [], _ => []
  | b :: bs, (x, y) => b.enc x :: memOf bs y
def Shape.enc (s : Shape) (x : s.X El) : St El := ⟨envOf s.env x.1, memOf s.mem x.2⟩

/-- ren: which block a block of the shape is; 'some none': none yet (a nil slice). -/
def capsOk (ren : Nat → Option (Option Nat)) (M : Nat) : List (Nat × Nat) → List (Nat × Nat) → Bool
  | [], [] => true
  | (i, o) :: ps, (j, o') :: qs => decide (ren i = some (some j)) && decide (o = o') && decide (i < M) && capsOk ren M ps qs
  | _, _ => false
def C.row? (t : Nat) (loc : Bool) : C El → Option (List (El t))
  | .row t' l _ loc' => if h : t' = t then if (!loc || loc') = true then some (h ▸ l) else none else none
  | .sc (.slice none 0 0) => some []
  | _ => none
def LS1.dec (ren : Nat → Option (Option Nat)) (M : Nat) : (s : LS1) → C El → Option (s.T El)
  | .int k => C.int? k
  | .bool => C.bool?
  | .str => C.str?
  | .row t loc => C.row? t loc
  | .arr t n => C.arr? t n
  | .sl id => fun c => match c with
    | .sl a => if ren id = some (some a) then if id < M then some () else none else none
    | .sc (.slice none 0 0) => if ren id = some none then if id < M then some () else none else none
    | _ => none
  | .ptr id off => fun c => match c with
    | .ptr a off' => if ren id = some (some a) then if off = off' then if id < M then some () else none else none else none
    | _ => none
  | .fn f caps => fun c => match c with
    | .fn f' caps' => if f = f' then if capsOk ren M caps caps' then some () else none else none
    | _ => none
  | .prow t off => fun c => match c with
    | .prow t' [y] 0 off' => if h : t' = t then if off' = off then some (h ▸ y) else none else none
    | _ => none
def Ldecs (ren : Nat → Option (Option Nat)) (M : Nat) : (ss : List LS1) → List (C El) → Option (LTs El ss)
  | [], [] => some ()
  | s :: ss, c :: cs => (s.dec ren M c).bind fun x => (Ldecs ren M ss cs).bind fun y => some (x, y)
  | _, _ => none
def LS.dec (ren : Nat → Option (Option Nat)) (M : Nat) : (s : LS) → V El → Option (s.T El)
  | .c s, .w (.c x) => s.dec ren M x
  | .agg ss, .w (.agg xs) => Ldecs ren M ss xs
  | _, _ => none
def decEnv (ren : Nat → Option (Option Nat)) (M : Nat) (e : Nat → V El) : (ps : List (Nat × LS)) → Option (LEs El ps)
  | [] => some ()
  | p :: ps => (p.2.dec ren M (e p.1)).bind fun x => (decEnv ren M e ps).bind fun y => some (x, y)
def BS.dec (ren : Nat → Option (Option Nat)) (M : Nat) (m : List (Blk El)) (i : Nat) : (b : BS) → Option (b.T El)
  | .st t ss => match ren i with
    | some (some a) => match m[a]? with
      | some (.st t' cs) => if t' = t then Ldecs ren M ss cs else none
      | _ => none
    | _ => none
  | .da t => match ren i with
    | some (some a) => match m[a]? with
      | some (.da t' l) => if h : t' = t then some (h ▸ l) else none
      | _ => none
    | some none => some []
    | none => none
def decMem (ren : Nat → Option (Option Nat)) (M : Nat) (m : List (Blk El)) : (i : Nat) → (bs : List BS) → Option (BTs El bs)
  | _, [] => some ()
  | i, b :: bs => (b.dec ren M m i).bind fun x => (decMem ren M m (i + 1) bs).bind fun y => some (x, y)

/-- Which blocks are meant: a first look. -/
def LS1.pairs : LS1 → C El → List (Nat × Option Nat)
  | .sl id, .sl a => [(id, some a)]
  | .sl id, .sc _ => [(id, none)]
  | .ptr id _, .ptr a _ => [(id, some a)]
  | .fn _ caps, .fn _ caps' => (caps.zip caps').map fun p => (p.1.1, some p.2.1)
  | _, _ => []
def pairs1 : List LS1 → List (C El) → List (Nat × Option Nat)
  | s :: ss, c :: cs => s.pairs c ++ pairs1 ss cs
  | _, _ => []
def LS.pairs : LS → V El → List (Nat × Option Nat)
  | .c s, .w (.c x) => s.pairs x
  | .agg ss, .w (.agg xs) => pairs1 ss xs
  | _, _ => []
def lookR : List (Nat × Option Nat) → Nat → Option (Option Nat)
  | [], _ => none
  | p :: ps, i => cond (Nat.beq p.1 i) (some p.2) (lookR ps i)
def collect (m : List (Blk El)) : Nat → List BS → List (Nat × Option Nat) → List (Nat × Option Nat)
  | _, [], ps => ps
  | i, .st _ ss :: bs, ps => collect m (i + 1) bs (match lookR ps i with
      | some (some a) => match m[a]? with
        | some (.st _ cs) => ps ++ pairs1 ss cs
        | _ => ps
      | _ => ps)
  | i, .da _ :: bs, ps => collect m (i + 1) bs ps
def Shape.ren (s : Shape) (σ : St El) : Nat → Option (Option Nat) :=
  lookR (collect σ.mem 0 s.mem (s.env.flatMap fun p => p.2.pairs (σ.env p.1)))

def Shape.dec (s : Shape) (σ : St El) : Option (s.X El) :=
  if ((List.range s.mem.length).filterMap fun i => (s.ren σ i).bind id).Nodup then
    (decEnv (s.ren σ) s.mem.length σ.env s.env).bind fun x => (decMem (s.ren σ) s.mem.length σ.mem 0 s.mem).bind fun y => some (x, y)
  else none

structure LoopC (El : Nat → Type) (ρ : Type) where
  shape : Shape
  l : Nat → shape.X El → Option ρ

variable (con : Nat → Nat → Option (Con G.U.El)) (L : Nat → Option (LoopC G.U.El ρ))

/-- A loop's head is come to. -/
def headOf (k n : Nat) (σ : St G.U.El) : Option ρ := match L k with
  | some c => (c.shape.dec σ).bind fun x => c.l n x
  | none => none

def aRegion (ops : Array Oper) (draw : Bool) (n : Nat) (σ : St G.U.El) (K : Kt G.U ρ) : Option ρ := match regionOrder G ops draw with
  | some is => aOps G (con n) n ops.toList is σ (fun σ => K n .normal σ)
  | none => none

def order3 (ops : Array Oper) : Option ((Nat × Nat × Nat) × (List Nat × List Nat × List Nat)) :=
  let ks := ops.toList.map (opKind G)
  let bs := (Region.before ops).toList
  let ids := (List.range ops.size).filter fun i => Nat.ble 1 (ks.getD i 0)
  let set := fun (bs : List Nat) i j => bs.set i (bs.getD i 0 ||| 2 ^ j)
  let ord := fun bs => orderOf ks bs ks.length 0
  let loose := fun x y => !Nat.beq x y && Nat.ble 4 (ks.getD x 0 + ks.getD y 0) && !(bs.getD x 0).testBit y && !(bs.getD y 0).testBit x
  ((ids.flatMap fun x => (ids.filter (loose x)).flatMap fun y => (ids.filter fun z => loose x z && (bs.getD z 0).testBit y).map fun z =>
    ((x, y, z), (ord (set bs y x), ord (set (set bs x y) z x), ord (set (set bs x y) x z)))).find? fun p => check3 G ops p.1.1 p.1.2.1 p.1.2.2 p.2.1 p.2.2.1 p.2.2.2)
def orders (ops : Array Oper) : Option (List Nat × List Nat × List Nat) := match order2 G ops with
  | some p => some (p.2.1, p.2.2, p.2.2)
  | none => match order3 G ops with
    | some p => some p.2
    | none => none
/-- By the one of the two orders, and by the other. -/
def aRegA (ops : Array Oper) (draw : Bool) (n : Nat) (σ : St G.U.El) (K : Kt G.U ρ) : Option ρ := match regionOrder G ops draw with
  | some is => aOps G (con n) n ops.toList is σ (fun σ => K n .normal σ)
  | none => match draw, orders G ops with
    | true, some p => aOps G (con n) n ops.toList p.1 σ (fun σ => K n .normal σ)
    | _, _ => none
def aRegB (ops : Array Oper) (draw : Bool) (n : Nat) (σ : St G.U.El) (K : Kt G.U ρ) : Option ρ := match regionOrder G ops draw with
  | some is => aOps G (con n) n ops.toList is σ (fun σ => K n .normal σ)
  | none => match draw, orders G ops with
    | true, some p => aOps G (con n) n ops.toList p.2.1 σ (fun σ => K n .normal σ)
    | _, _ => none
def aRegC (ops : Array Oper) (draw : Bool) (n : Nat) (σ : St G.U.El) (K : Kt G.U ρ) : Option ρ := match regionOrder G ops draw with
  | some is => aOps G (con n) n ops.toList is σ (fun σ => K n .normal σ)
  | none => match draw, orders G ops with
    | true, some p => aOps G (con n) n ops.toList p.2.2 σ (fun σ => K n .normal σ)
    | _, _ => none
/-- What is known behind a test. -/
def setB (e : Nat → V El) (c : Operand) (b : Bool) : Nat → V El := match c with
  | .tmp t => upd e (some t) (.w (bool b))
  | _ => e

/-- A loop that goes round a known number of times is unrolled. -/
def rolled (b : Nat → St G.U.El → Kt G.U ρ → Option ρ) (K : Kt G.U ρ) : Nat → Nat → St G.U.El → Option ρ
  | 0, _, _ => none
  | u + 1, n, σ => b n σ fun n e σ => match e with | .normal => rolled b K u n σ | .ret => K n .ret σ | .exit i => K n (.exit i) σ
def rollK (b : Nat → St G.U.El → Kt G.U ρ → Option ρ) (K : Kt G.U ρ) (u : Nat) : Kt G.U ρ := fun n e σ => match e with | .normal => rolled G b K u n σ | .ret => K n .ret σ | .exit i => K n (.exit i) σ
abbrev rolls : Nat := 8

noncomputable def aev (c : Code) : Nat → Nat → St G.U.El → Kt G.U ρ → Option ρ :=
  Code.rec (motive := fun _ => Nat → Nat → St G.U.El → Kt G.U ρ → Option ρ)
    (fun _ n σ K => K n .normal σ)
    (fun id ops draw _ n σ K => match L (2 * id + 1) with
      | some _ => headOf G L (2 * id + 1) n σ
      | none => aRegion G con ops draw n σ K)
    (fun _ _ a b k n σ K => a k n σ fun n e σ => match e with | .normal => b k n σ K | .ret => K n .ret σ | .exit i => K n (.exit i) σ)
    (fun c _ _ x y k n σ K => match opv σ.env c with
      | .w (.c (.sc (.bool t))) => cond t (x k n ⟨setB σ.env c true, σ.mem⟩ K) (y k n ⟨setB σ.env c false, σ.mem⟩ K)
      | _ => none)
    (fun id _ c _ n σ K => c id n σ fun n e σ => match e with | .exit i => cond (Nat.beq i id) (K n .normal σ) (K n (.exit i) σ) | .normal => K n .normal σ | .ret => K n .ret σ)
    (fun _ b k n σ K => match L (2 * k) with
      | some _ => headOf G L (2 * k) n σ
      | none => rolled G (b k) K rolls n σ)
    (fun _ _ _ _ _ _ _ _ _ _ => none)
    (fun id _ n σ K => K n (.exit id) σ)
    (fun _ _ _ _ _ _ => none)
    (fun _ _ _ _ _ => none)
    (fun _ _ _ _ _ => none)
    (fun _ n σ K => K n .ret σ)
    (fun _ _ _ _ _ => none) c

/-- The loops of a code: each round comes to what its plain function says. -/
def loopsOk (c : Code) : Nat → Kt G.U ρ → Prop :=
  Code.rec (motive := fun _ => Nat → Kt G.U ρ → Prop)
    (fun _ _ => True)
    (fun id ops draw _ K => ∀ c, L (2 * id + 1) = some c → ∀ n x r, c.l n x = some r → aRegA G con ops draw n (c.shape.enc x) K = some r ∧ aRegB G con ops draw n (c.shape.enc x) K = some r ∧ aRegC G con ops draw n (c.shape.enc x) K = some r)
    (fun _ b a' b' k K => a' k (fun n e σ => match e with | .normal => aev G con L b k n σ K | .ret => K n .ret σ | .exit i => K n (.exit i) σ) ∧ b' k K)
    (fun _ _ _ x y k K => x k K ∧ y k K)
    (fun id _ c _ K => c id fun n e σ => match e with | .exit i => cond (Nat.beq i id) (K n .normal σ) (K n (.exit i) σ) | .normal => K n .normal σ | .ret => K n .ret σ)
    (fun body b k K => (∀ c, L (2 * k) = some c → ((∀ x, c.l 0 x = none) ∧ ∀ n x r, c.l (n + 1) x = some r → aev G con L body k n (c.shape.enc x) (fun n e σ => match e with | .normal => headOf G L (2 * k) n σ | .ret => K n .ret σ | .exit i => K n (.exit i) σ) = some r) ∧
      b k fun n e σ => match e with | .normal => headOf G L (2 * k) n σ | .ret => K n .ret σ | .exit i => K n (.exit i) σ) ∧
      (L (2 * k) = none → ∀ u, u < rolls → b k (rollK G (aev G con L body k) K u)))
    (fun _ _ _ _ _ _ _ _ => True)
    (fun _ _ _ => True)
    (fun _ _ _ _ => True)
    (fun _ _ _ => True)
    (fun _ _ _ => True)
    (fun _ _ => True)
    (fun _ _ _ => True) c

def resOf (rs : List ResultVar) (σ : St G.U.El) : Option (List (W G.U.El)) :=
  match rs with
  | [] => some []
  | .tmp t :: rs => match σ.env t with
    | .w x => (resOf rs σ).map (x :: ·)
    | _ => none
  | .cell a t :: rs => (aLoad G t (σ.env a) σ.mem some).bind fun x => (resOf rs σ).map (x :: ·)

/-- What comes back is known by temporaries that are written by nobody. -/
def pinsOk : List AS → Nat → Bool
  | [], _ => true
  | s :: ss, i => (s.bkS.isEmpty || G.pins.contains i) && pinsOk ss (i + 1)
def S1.width (U : Univ) : S1 → Nat
  | .arr t n => n * U.sz t
  | _ => 1
def C.isIp : C El → Bool
  | .sl _ => true
  | .sc (.slice none 0 0) => true
  | _ => false
def S1.align (U : Univ) (s : S1) (c : C U.El) : Bool := Nat.beq (s.width U) (c.width U) && (match s with
  | .ip _ => c.isIp
  | _ => true)
def align1 (U : Univ) : List S1 → List (C U.El) → Bool
  | [], [] => true
  | s :: ss, c :: cs => s.align U c && align1 U ss cs
  | _, _ => false
def AS.align (U : Univ) : AS → V U.El → Bool
  | .c s, .w (.c x) => s.bkS.isEmpty || s.align U x
  | .c s, _ => s.bkS.isEmpty
  | .agg ss, .w (.agg xs) => (bkS1 ss).isEmpty || align1 U ss xs
  | .agg ss, _ => (bkS1 ss).isEmpty
  | .io _ _, .w (.c (.ptr _ off)) => Nat.beq off 0
  | .io _ _, _ => false
  | .fnp _ caps, .w (.c (.fn _ cs)) => Nat.beq caps.length cs.length && cs.all fun c => Nat.beq c.2 0
  | .fnp _ caps, _ => caps.isEmpty
  | _, _ => true
def aligns (U : Univ) : List AS → List (V U.El) → Bool
  | [], [] => true
  | s :: ss, v :: vs => s.align U v && aligns U ss vs
  | _, _ => false

def isBk : AS → Bool
  | .bk _ => true
  | _ => false
def kEnd (fn : Func) (ins outs : List AS) : Kt G.U (Os G.U.El (outs ++ bkSs ins)) := fun _ e σ => match e with
  | .exit _ => none
  | _ => (resOf G fn.results.toList σ).bind fun vs =>
    let ps := (List.range ins.length).map σ.env
    let is := bkIs ins ps
    (bkWs σ.mem (bkSs ins) is).bind fun bs =>
      if handsOk (srcsOf σ.mem (outs ++ bkSs ins) (vs ++ bs) ++ is) (usesOf σ.mem (outs ++ bkSs ins) (vs ++ bs)) && (pinsOk G ins 0 && aligns G.U ins ps && Nat.beq vs.length outs.length && !(outs.any isBk)) then Oout σ.mem (outs ++ bkSs ins) (vs ++ bs) else none

def startOf (ins : List AS) (x : ASs G.U.El ins) : St G.U.El := ⟨fun t => (encIs ins x []).1.getD t .und, (encIs ins x []).2⟩

noncomputable def aFun (fn : Func) (ins outs : List AS) (L : Nat → Option (LoopC G.U.El (Os G.U.El (outs ++ bkSs ins)))) (n : Nat) (x : ASs G.U.El ins) : Option (Os G.U.El (outs ++ bkSs ins)) :=
  match fn.body with
  | some c => aev G con L c 0 n (startOf G ins x) (kEnd G fn ins outs)
  | none => none

end

end Go.Proofs.Ytnjmkkgmlkhjeaa.AM
namespace Go.Proofs.Ytnjmkkgmlkhjeaa.AM
open Go.RowKit

section
variable (U : Univ)

/-- A row's cells. -/
def flat (t : Nat) (l : List (U.El t)) : List Value := (l.map (U.cells t)).flatten

def ownOf : Value → Option Nat
  | .slice (some a) _ _ => some a.block
  | .pointer (some a) => some a.block
  | _ => none

def Blk.live {El : Nat → Type} : Blk El → Prop
  | .dead => False
  | _ => True

def Far (ι : Nat → Value) (m : List (Blk U.El)) (k : Nat) : Prop := ∀ id b, m[id]? = some b → b.live → ownOf (ι id) ≠ some k

def RD (B : Nat → Prop) (ι : Nat → Value) (m : List (Blk U.El)) (w : World) (loc : Bool) (A : Option Addr) (cells : List Value) : Prop :=
  ∀ j v, cells[j]? = some v → ∃ b o, A = some ⟨b, o, none⟩ ∧ w.cell? ⟨b, o + j, none⟩ = some v ∧ Far U ι m b ∧ (loc = true → B b)

def PR (ι : Nat → Value) (m : List (Blk U.El)) (id off : Nat) (v : Value) : Prop :=
  id < m.length ∧ ∃ β, ι id = .pointer (some ⟨β, 0, none⟩) ∧ v = .pointer (some ⟨β, off, none⟩)

def CR (B : Nat → Prop) (ι : Nat → Value) (m : List (Blk U.El)) (w : World) : C U.El → Value → Prop
  | .sc u, v => v = u ∧ u.oneCell' = true
  | .row t l tight loc, v => ∃ A cap, v = .slice A l.length cap ∧ l.length ≤ cap ∧ RD U B ι m w loc A (flat U t l) ∧ (tight = true → cap = l.length)
  | .sl id, v => id < m.length ∧ v = ι id ∧ v.oneCell' = true
  | .sub id t off len, v => id < m.length ∧ ∃ A cap, v = .slice A len cap ∧ len ≤ cap ∧ (0 < len → ∃ g n c, ι id = .slice (some ⟨g, 0, none⟩) n c ∧ off + len ≤ n ∧ A = some ⟨g, off * U.sz t, none⟩)
  | .arr .., _ => False
  | .ptr id off, v => PR U ι m id off v
  | .pda id t i off, v => id < m.length ∧ ∃ g n c, ι id = .slice (some ⟨g, 0, none⟩) n c ∧ i < n ∧ v = .pointer (some ⟨g, i * U.sz t + off, none⟩)
  | .parr id e n f i off, v => id < m.length ∧ i < n ∧ ∃ β, ι id = .pointer (some ⟨β, 0, none⟩) ∧ v = .pointer (some ⟨β, f + i * U.sz e + off, none⟩)
  | .prow t l i off, v => i < l.length ∧ ∃ b o, v = .pointer (some ⟨b, o + (i * U.sz t + off), none⟩) ∧ RD U B ι m w false (some ⟨b, o, none⟩) (flat U t l)
  | .bfn f id off, v => ∃ u, v = .func (.func f) #[u] #[] ∧ PR U ι m id off u
  | .fsl id n, v => id < m.length ∧ ∃ β, ι id = .pointer (some ⟨β, 0, none⟩) ∧ v = .slice (some ⟨β, 0, none⟩) n n
  | .fn f caps, v => ∃ vs : List Value, v = .func (.func f) #[] vs.toArray ∧ vs.length = caps.length ∧ ∀ (j : Nat) (p : Nat × Nat) (u : Value), caps[j]? = some p → vs[j]? = some u → PR U ι m p.1 p.2 u

def CW (B : Nat → Prop) (ι : Nat → Value) (m : List (Blk U.El)) (w : World) : C U.El → List Value → Prop
  | .arr t n l, vs => l.length = n ∧ vs = flat U t l
  | c, vs => ∃ v, vs = [v] ∧ CR U B ι m w c v

def CsR (B : Nat → Prop) (ι : Nat → Value) (m : List (Blk U.El)) (w : World) : List (C U.El) → List Value → Prop
  | [], vs => vs = []
  | c :: cs, vs => ∃ a r, vs = a ++ r ∧ CW U B ι m w c a ∧ CsR B ι m w cs r

def WR (B : Nat → Prop) (ι : Nat → Value) (m : List (Blk U.El)) (w : World) : W U.El → Value → Prop
  | .c x, v => CR U B ι m w x v
  | .agg xs, v => ∃ vs : List Value, v = .agg vs.toArray ∧ CsR U B ι m w xs vs

def WsR (B : Nat → Prop) (ι : Nat → Value) (m : List (Blk U.El)) (w : World) : List (W U.El) → List Value → Prop
  | [], vs => vs = []
  | x :: xs, vs => ∃ v r, vs = v :: r ∧ WR U B ι m w x v ∧ WsR B ι m w xs r

def VR (B : Nat → Prop) (ι : Nat → Value) (m : List (Blk U.El)) (w : World) : V U.El → Value → Prop
  | .un, _ => True
  | .und, v => v = undef
  | .w x, v => WR U B ι m w x v
  | .tup xs, v => ∃ vs : List Value, v = .tuple vs.toArray ∧ WsR U B ι m w xs vs

def BR (B : Nat → Prop) (ι : Nat → Value) (m : List (Blk U.El)) (w : World) (id : Nat) : Blk U.El → Prop
  | .dead => True
  | .st t cs => ∃ β vs, ι id = .pointer (some ⟨β, 0, none⟩) ∧ w.heap[β]? = some (.cells vs t (0, 0)) ∧ CsR U B ι m w cs vs.toList
  | .da t l => w.ownsRow 0 t (U.sz t) (ι id) l.length (flat U t l)

structure MR (B : Nat → Prop) (S : Nat → Prop) (ι : Nat → Value) (m : List (Blk U.El)) (w : World) : Prop where
  blk : ∀ id b, m[id]? = some b → BR U B ι m w id b
  inj : ∀ i j b b' k, m[i]? = some b → m[j]? = some b' → b.live → b'.live → ownOf (ι i) = some k → ownOf (ι j) = some k → i = j
  inS : ∀ id b k, m[id]? = some b → b.live → ownOf (ι id) = some k → S k

structure Grow (ι : Nat → Value) (m : List (Blk U.El)) (w : World) (ι' : Nat → Value) (m' : List (Blk U.El)) (w' : World) : Prop where
  len : m.length ≤ m'.length
  iota : ∀ id, id < m.length → ι' id = ι id
  size : w.heap.size ≤ w'.heap.size
  far : ∀ k, k < w.heap.size → Far U ι m k → w'.heap[k]? = w.heap[k]? ∧ Far U ι' m' k

/-- What a call may turn: the blocks of S. -/
structure Fr (S : Nat → Prop) (w w' : World) : Prop where
  os : w'.os = w.os
  tape : w'.tape = w.tape
  output : w'.output = w.output
  size : w.heap.size ≤ w'.heap.size
  block : ∀ k, k < w.heap.size → ¬ S k → w'.heap[k]? = w.heap[k]?
end

section
variable {U : Univ} {B : Nat → Prop} {ι ι' : Nat → Value} {m m' : List (Blk U.El)} {w w' : World}

theorem Grow.refl : Grow U ι m w ι m w := ⟨Nat.le_refl _, fun _ _ => rfl, Nat.le_refl _, fun _ _ h => ⟨rfl, h⟩⟩

theorem Grow.trans {ι'' : Nat → Value} {m'' : List (Blk U.El)} {w'' : World} (h : Grow U ι m w ι' m' w') (k : Grow U ι' m' w' ι'' m'' w'') : Grow U ι m w ι'' m'' w'' :=
  ⟨Nat.le_trans h.len k.len, fun id hi => (k.iota id (Nat.lt_of_lt_of_le hi h.len)).trans (h.iota id hi), Nat.le_trans h.size k.size,
    fun b hb hf => let a := h.far b hb hf; let c := k.far b (Nat.lt_of_lt_of_le hb h.size) a.2; ⟨c.1.trans a.1, c.2⟩⟩

theorem RD.grow (h : Grow U ι m w ι' m' w') {loc : Bool} {A : Option Addr} {cs : List Value} (hr : RD U B ι m w loc A cs) : RD U B ι' m' w' loc A cs := by
  intro j v hv
  obtain ⟨b, o, hA, hc, hf, hl⟩ := hr j v hv
  have hlt := World.block_lt_of_cell? w _ hc
  obtain ⟨h1, h2⟩ := h.far b hlt hf
  exact ⟨b, o, hA, (World.cell?_of_block (w := w) (a := ⟨b, o + j, none⟩) h1).trans hc, h2, hl⟩

theorem PR.grow (h : Grow U ι m w ι' m' w') {id off : Nat} {v : Value} (hr : PR U ι m id off v) : PR U ι' m' id off v := by
  obtain ⟨h1, β, h2, h3⟩ := hr
  exact ⟨Nat.lt_of_lt_of_le h1 h.len, β, (h.iota id h1).trans h2, h3⟩

theorem CR.grow (h : Grow U ι m w ι' m' w') : ∀ {c : C U.El} {v : Value}, CR U B ι m w c v → CR U B ι' m' w' c v
  | .sc _, _, ⟨h1, h2⟩ => ⟨h1, h2⟩
  | .row .., _, ⟨A, cap, h1, h2, h3, h4⟩ => ⟨A, cap, h1, h2, h3.grow h, h4⟩
  | .sl id, _, ⟨h1, h2, h3⟩ => ⟨Nat.lt_of_lt_of_le h1 h.len, h2.trans (h.iota id h1).symm, h3⟩
  | .sub id .., _, ⟨h1, A, cap, h2, h3, h4⟩ => ⟨Nat.lt_of_lt_of_le h1 h.len, A, cap, h2, h3, fun hl => let ⟨g, n, c, a, b⟩ := h4 hl; ⟨g, n, c, (h.iota id h1).trans a, b⟩⟩
  | .arr .., _, hr => hr
  | .ptr .., _, hr => PR.grow h hr
  | .pda id .., _, ⟨h1, g, n, c, h2, h3⟩ => ⟨Nat.lt_of_lt_of_le h1 h.len, g, n, c, (h.iota id h1).trans h2, h3⟩
  | .parr id .., _, ⟨h1, h2, β, h3, h4⟩ => ⟨Nat.lt_of_lt_of_le h1 h.len, h2, β, (h.iota id h1).trans h3, h4⟩
  | .prow .., _, ⟨h1, b, o, h2, h3⟩ => ⟨h1, b, o, h2, h3.grow h⟩
  | .fn .., _, ⟨vs, h1, h2, h3⟩ => ⟨vs, h1, h2, fun j p u hp hu => (h3 j p u hp hu).grow h⟩
  | .bfn .., _, ⟨u, h1, h2⟩ => ⟨u, h1, h2.grow h⟩
  | .fsl id _, _, ⟨h1, β, h2, h3⟩ => ⟨Nat.lt_of_lt_of_le h1 h.len, β, (h.iota id h1).trans h2, h3⟩

theorem CW.grow (h : Grow U ι m w ι' m' w') : ∀ {c : C U.El} {vs : List Value}, CW U B ι m w c vs → CW U B ι' m' w' c vs
  | .arr .., _, hr => hr
  | .sc _, _, ⟨v, h1, h2⟩ | .row .., _, ⟨v, h1, h2⟩ | .sl _, _, ⟨v, h1, h2⟩ | .sub .., _, ⟨v, h1, h2⟩ | .ptr .., _, ⟨v, h1, h2⟩ | .pda .., _, ⟨v, h1, h2⟩ | .parr .., _, ⟨v, h1, h2⟩
  | .prow .., _, ⟨v, h1, h2⟩ | .fn .., _, ⟨v, h1, h2⟩ | .bfn .., _, ⟨v, h1, h2⟩ | .fsl .., _, ⟨v, h1, h2⟩ => ⟨v, h1, CR.grow h h2⟩

theorem CsR.grow (h : Grow U ι m w ι' m' w') : ∀ {cs : List (C U.El)} {vs : List Value}, CsR U B ι m w cs vs → CsR U B ι' m' w' cs vs
  | [], _, hr => hr
  | _ :: _, _, ⟨a, r, h1, h2, h3⟩ => ⟨a, r, h1, h2.grow h, CsR.grow h h3⟩

theorem WR.grow (h : Grow U ι m w ι' m' w') : ∀ {x : W U.El} {v : Value}, WR U B ι m w x v → WR U B ι' m' w' x v
  | .c c, v, hr => CR.grow (c := c) (v := v) h hr
  | .agg _, _, ⟨vs, h1, h2⟩ => ⟨vs, h1, h2.grow h⟩

theorem WsR.grow (h : Grow U ι m w ι' m' w') : ∀ {xs : List (W U.El)} {vs : List Value}, WsR U B ι m w xs vs → WsR U B ι' m' w' xs vs
  | [], _, hr => hr
  | _ :: _, _, ⟨v, r, h1, h2, h3⟩ => ⟨v, r, h1, h2.grow h, WsR.grow h h3⟩

theorem VR.grow (h : Grow U ι m w ι' m' w') : ∀ {x : V U.El} {v : Value}, VR U B ι m w x v → VR U B ι' m' w' x v
  | .un, _, hr => hr
  | .und, _, hr => hr
  | .w _, _, hr => WR.grow h hr
  | .tup _, _, ⟨vs, h1, h2⟩ => ⟨vs, h1, h2.grow h⟩

theorem own_lt {id : Nat} {b : Blk U.El} (h : BR U B ι m w id b) (hl : b.live) {k : Nat} (hk : ownOf (ι id) = some k) : k < w.heap.size := by
  cases b with
  | dead => exact hl.elim
  | st t cs =>
    obtain ⟨β, vs, h1, h2, _⟩ := h
    rw [h1] at hk
    cases hk
    exact (Array.getElem?_eq_some_iff.1 h2).1
  | da t l =>
    rcases h.2 with ⟨h1, _⟩ | ⟨g, cap, cur, h1, _, h2, _⟩
    · rw [h1] at hk; cases hk
    · rw [h1] at hk
      cases hk
      exact (Array.getElem?_eq_some_iff.1 h2).1

/-- A block whose concrete block holds what it held. -/
theorem BR.keep (hg : Grow U ι m w ι' m' w') {id : Nat} {b : Blk U.El} (hi : id < m.length) (h : BR U B ι m w id b) (hb : ∀ k, ownOf (ι id) = some k → w'.heap[k]? = w.heap[k]?) : BR U B ι' m' w' id b := by
  have hι := hg.iota id hi
  cases b with
  | dead => trivial
  | st t cs =>
    obtain ⟨β, vs, h1, h2, h3⟩ := h
    exact ⟨β, vs, hι.trans h1, (hb β (by rw [h1]; rfl)).trans h2, h3.grow hg⟩
  | da t l =>
    refine ⟨h.1, ?_⟩
    rw [hι]
    rcases h.2 with h1 | ⟨g, cap, cur, h1, h2, h3, h4⟩
    · exact .inl h1
    · exact .inr ⟨g, cap, cur, h1, h2, (hb g (by rw [h1]; rfl)).trans h3, h4⟩

/-- The memory behind a step: X: the concrete blocks that were written. -/
theorem MR.upd {S : Nat → Prop} (h : MR U B S ι m w) (X : Nat → Prop) (hlen : m.length ≤ m'.length) (hι : ∀ id, id < m.length → ι' id = ι id) (hsize : w.heap.size ≤ w'.heap.size)
    (hheap : ∀ k, k < w.heap.size → ¬ X k → w'.heap[k]? = w.heap[k]?) (hX : ∀ k, X k → ∃ id b, m[id]? = some b ∧ b.live ∧ ownOf (ι id) = some k)
    (N : Nat → Prop)
    (hold : ∀ id b, m'[id]? = some b → b.live → ¬ N id → id < m.length ∧ m[id]? = some b ∧ ∀ k, ownOf (ι id) = some k → ¬ X k)
    (hown : ∀ id b k, m'[id]? = some b → b.live → N id → ownOf (ι' id) = some k → (X k ∨ w.heap.size ≤ k) ∧ S k)
    (hinj : ∀ i j b b' k, m'[i]? = some b → m'[j]? = some b' → b.live → b'.live → N i → N j → ownOf (ι' i) = some k → ownOf (ι' j) = some k → i = j)
    (hnew : Grow U ι m w ι' m' w' → ∀ id b, m'[id]? = some b → b.live → N id → BR U B ι' m' w' id b) :
    Grow U ι m w ι' m' w' ∧ MR U B S ι' m' w' := by
  have hg : Grow U ι m w ι' m' w' := by
    refine ⟨hlen, hι, hsize, fun k hk hf => ?_⟩
    have hx : ¬ X k := fun hx => by
      obtain ⟨id, b, h1, h2, h3⟩ := hX k hx
      exact hf id b h1 h2 h3
    refine ⟨hheap k hk hx, fun id b h1 h2 h3 => ?_⟩
    by_cases hn : N id
    · rcases (hown id b k h1 h2 hn h3).1 with h4 | h4
      · exact hx h4
      · omega
    · obtain ⟨hi, ho, _⟩ := hold id b h1 h2 hn
      rw [hι id hi] at h3
      exact hf id b ho h2 h3
  refine ⟨hg, ⟨fun id b hb => ?_, ?_, ?_⟩⟩
  · by_cases hl : b.live
    · by_cases hn : N id
      · exact hnew hg id b hb hl hn
      · obtain ⟨hi, ho, hk⟩ := hold id b hb hl hn
        refine (h.blk id b ho).keep hg hi fun k hk' => hheap k (own_lt (h.blk id b ho) hl hk') (hk k hk')
    · cases b with
      | dead => trivial
      | _ => exact absurd trivial hl
  · intro i j b b' k hi hj hl hl' h1 h2
    by_cases hni : N i <;> by_cases hnj : N j
    · exact hinj i j b b' k hi hj hl hl' hni hnj h1 h2
    · obtain ⟨hj1, hj2, hj3⟩ := hold j b' hj hl' hnj
      rw [hι j hj1] at h2
      rcases (hown i b k hi hl hni h1).1 with h4 | h4
      · exact absurd h4 (hj3 k h2)
      · have := own_lt (h.blk j b' hj2) hl' h2; omega
    · obtain ⟨hj1, hj2, hj3⟩ := hold i b hi hl hni
      rw [hι i hj1] at h1
      rcases (hown j b' k hj hl' hnj h2).1 with h4 | h4
      · exact absurd h4 (hj3 k h1)
      · have := own_lt (h.blk i b hj2) hl h1; omega
    · obtain ⟨hi1, hi2, _⟩ := hold i b hi hl hni
      obtain ⟨hj1, hj2, _⟩ := hold j b' hj hl' hnj
      rw [hι i hi1] at h1
      rw [hι j hj1] at h2
      exact h.inj i j b b' k hi2 hj2 hl hl' h1 h2
  · intro id b k hb hl hk
    by_cases hn : N id
    · exact (hown id b k hb hl hn hk).2
    · obtain ⟨hi, ho, _⟩ := hold id b hb hl hn
      rw [hι id hi] at hk
      exact h.inS id b k ho hl hk

/-- Nothing of the memory is turned: draws, blocks of nobody. -/
theorem MR.quiet {S : Nat → Prop} (h : MR U B S ι m w) (hsize : w.heap.size ≤ w'.heap.size) (hheap : ∀ k, k < w.heap.size → w'.heap[k]? = w.heap[k]?) :
    Grow U ι m w ι m w' ∧ MR U B S ι m w' :=
  h.upd (fun _ => False) (Nat.le_refl _) (fun _ _ => rfl) hsize (fun k hk _ => hheap k hk) (fun _ h => h.elim) (fun _ => False)
    (fun id b hb _ _ => ⟨(List.getElem?_eq_some_iff.1 hb).1, hb, fun _ _ h => h⟩) (fun _ _ _ _ _ h => h.elim) (fun _ _ _ _ _ _ _ _ _ h => h.elim) (fun _ _ _ _ _ h => h.elim)

def updι (ι : Nat → Value) (id : Nat) (v : Value) : Nat → Value := fun i => if i = id then v else ι i

/-- A new block. -/
theorem MR.push {S : Nat → Prop} (h : MR U B S ι m w) (hS : ∀ k, w.heap.size ≤ k → S k) (b : Blk U.El) (v : Value) (hsize : w.heap.size ≤ w'.heap.size) (hheap : ∀ k, k < w.heap.size → w'.heap[k]? = w.heap[k]?)
    (hv : ∀ k, ownOf v = some k → w.heap.size ≤ k)
    (hnew : Grow U ι m w (updι ι m.length v) (m ++ [b]) w' → BR U B (updι ι m.length v) (m ++ [b]) w' m.length b) :
    Grow U ι m w (updι ι m.length v) (m ++ [b]) w' ∧ MR U B S (updι ι m.length v) (m ++ [b]) w' := by
  have hN : ∀ id b', (m ++ [b])[id]? = some b' → ¬ id = m.length → id < m.length ∧ m[id]? = some b' := by
    intro id b' hb hne
    have hlt := (List.getElem?_eq_some_iff.1 hb).1
    simp only [List.length_append, List.length_cons, List.length_nil] at hlt
    have hlt' : id < m.length := by omega
    rw [List.getElem?_append_left hlt'] at hb
    exact ⟨hlt', hb⟩
  have hupd : updι ι m.length v m.length = v := by simp [updι]
  refine h.upd (fun _ => False) (by simp) (fun id hi => by simp [updι, Nat.ne_of_lt hi]) hsize (fun k hk _ => hheap k hk) (fun _ h => h.elim) (fun id => id = m.length)
    (fun id b' hb _ hn => ⟨(hN id b' hb hn).1, (hN id b' hb hn).2, fun _ _ h => h⟩) ?_ (fun i j _ _ _ _ _ _ _ hi hj _ _ => hi.trans hj.symm) ?_
  · rintro id b' k _ _ rfl hk
    rw [hupd] at hk
    exact ⟨.inr (hv k hk), hS k (hv k hk)⟩
  · rintro hg id b' hb _ rfl
    rw [List.getElem?_append_right (Nat.le_refl _)] at hb
    simp at hb
    subst hb
    exact hnew hg

/-- A block is written. -/
theorem MR.write {S : Nat → Prop} (h : MR U B S ι m w) (id : Nat) (b0 b : Blk U.El) (hid : m[id]? = some b0) (hl0 : b0.live) (hsize : w.heap.size ≤ w'.heap.size)
    (hheap : ∀ k, k < w.heap.size → ownOf (ι id) ≠ some k → w'.heap[k]? = w.heap[k]?)
    (hnew : Grow U ι m w ι (m.set id b) w' → BR U B ι (m.set id b) w' id b) :
    Grow U ι m w ι (m.set id b) w' ∧ MR U B S ι (m.set id b) w' := by
  have hlt := (List.getElem?_eq_some_iff.1 hid).1
  refine h.upd (fun k => ownOf (ι id) = some k) (by simp) (fun _ _ => rfl) hsize hheap (fun k hk => ⟨id, b0, hid, hl0, hk⟩) (fun i => i = id) ?_ ?_ (fun i j _ _ _ _ _ _ _ hi hj _ _ => hi.trans hj.symm) ?_
  · intro i b' hb hlb hne
    rw [List.getElem?_set_ne (Ne.symm hne)] at hb
    exact ⟨(List.getElem?_eq_some_iff.1 hb).1, hb, fun k hk hk' => hne (h.inj i id b' b0 k hb hid hlb hl0 hk hk')⟩
  · rintro i b' k hb hlb rfl hk
    exact ⟨.inl hk, h.inS i b0 k hid hl0 hk⟩
  · rintro hg i b' hb _ rfl
    rw [List.getElem?_set_self hlt] at hb
    cases hb
    exact hnew hg

theorem Fr.refl (S : Nat → Prop) (w : World) : Fr S w w := ⟨rfl, rfl, rfl, Nat.le_refl _, fun _ _ _ => rfl⟩
theorem Fr.trans {S : Nat → Prop} {a b c : World} (h : Fr S a b) (k : Fr S b c) : Fr S a c :=
  ⟨k.os.trans h.os, k.tape.trans h.tape, k.output.trans h.output, Nat.le_trans h.size k.size, fun i hi hs => (k.block i (Nat.lt_of_lt_of_le hi h.size) hs).trans (h.block i hi hs)⟩


/-- What the elements' types must hold. -/
structure UOk (U : Univ) : Prop where
  len : ∀ t (y : U.El t), (U.cells t y).length = U.sz t
  back : ∀ t vs y, U.back t vs = some y → U.cells t y = vs
  one : ∀ t (y : U.El t), ∀ u ∈ U.cells t y, u.oneCell' = true
  int : ∀ t k, (U.ent t).k = some k → ∀ y : U.El t, ∃ n, U.cells t y = [.int k n]

theorem flat_len (hU : UOk U) (t : Nat) (l : List (U.El t)) : (flat U t l).length = l.length * U.sz t := by
  induction l with
  | nil => simp [flat]
  | cons y l ih =>
    have : flat U t (y :: l) = U.cells t y ++ flat U t l := by simp [flat]
    rw [this, List.length_append, ih, hU.len, List.length_cons, Nat.add_mul, Nat.one_mul, Nat.add_comm]

theorem flat_append (t : Nat) (l l' : List (U.El t)) : flat U t (l ++ l') = flat U t l ++ flat U t l' := by simp [flat]

theorem flat_one (hU : UOk U) (t : Nat) (l : List (U.El t)) : ∀ u ∈ flat U t l, u.oneCell' = true := by
  intro u hu
  simp only [flat, List.mem_flatten, List.mem_map] at hu
  obtain ⟨c, ⟨y, _, rfl⟩, hu⟩ := hu
  exact hU.one t y u hu

/-- An element's cells lie at its place. -/
theorem flat_at (hU : UOk U) (t : Nat) (l : List (U.El t)) (i : Nat) (hi : i < l.length) (d : U.El t) :
    ((flat U t l).drop (i * U.sz t)).take (U.sz t) = U.cells t (rd d l i) := by
  induction l generalizing i with
  | nil => simp at hi
  | cons y l ih =>
    have e : flat U t (y :: l) = U.cells t y ++ flat U t l := by simp [flat]
    have hy := hU.len t y
    cases i with
    | zero => simp [rd, e, List.take_append, hy]
    | succ i =>
      have := ih i (by simpa using hi)
      rw [e, show (i + 1) * U.sz t = (U.cells t y).length + i * U.sz t by rw [hy, Nat.add_mul]; omega, ← List.drop_drop, List.drop_left]
      simp only [rd, List.getD_cons_succ] at this ⊢
      exact this

theorem flat_get (hU : UOk U) (t : Nat) (l : List (U.El t)) (i : Nat) (hi : i < l.length) (d : U.El t) (j : Nat) (v : Value) (hv : (U.cells t (rd d l i))[j]? = some v) :
    (flat U t l)[i * U.sz t + j]? = some v := by
  rw [← flat_at hU t l i hi d] at hv
  rw [List.getElem?_take] at hv
  split at hv
  · rwa [List.getElem?_drop] at hv
  · cases hv

theorem CW.len (hU : UOk U) : ∀ {c : C U.El} {vs : List Value}, CW U B ι m w c vs → vs.length = c.width U
  | .arr t n l, _, ⟨h1, h2⟩ => by rw [h2, flat_len hU, h1]; rfl
  | .sc _, _, ⟨v, h1, h2⟩ | .row .., _, ⟨v, h1, h2⟩ | .sl _, _, ⟨v, h1, h2⟩ | .sub .., _, ⟨v, h1, h2⟩ | .ptr .., _, ⟨v, h1, h2⟩ | .pda .., _, ⟨v, h1, h2⟩ | .parr .., _, ⟨v, h1, h2⟩
  | .prow .., _, ⟨v, h1, h2⟩ | .fn .., _, ⟨v, h1, h2⟩ | .bfn .., _, ⟨v, h1, h2⟩ | .fsl .., _, ⟨v, h1, h2⟩ => by rw [h1]; rfl

theorem CsR.len (hU : UOk U) : ∀ {cs : List (C U.El)} {vs : List Value}, CsR U B ι m w cs vs → vs.length = widths U cs
  | [], _, h => by rw [h]; rfl
  | c :: cs, _, ⟨a, r, h1, h2, h3⟩ => by rw [h1, List.length_append, h2.len hU, CsR.len hU h3]; rfl

theorem CsR.app : ∀ {as bs : List (C U.El)} {va vb : List Value}, CsR U B ι m w as va → CsR U B ι m w bs vb → CsR U B ι m w (as ++ bs) (va ++ vb)
  | [], _, _, _, h, h' => by cases h; exact h'
  | _ :: _, _, _, _, ⟨a, r, h1, h2, h3⟩, h' => ⟨a, r ++ _, by rw [h1, List.append_assoc], h2, CsR.app h3 h'⟩

theorem takeW_ok (hU : UOk U) : ∀ {cs a : List (C U.El)} {n : Nat} {vs : List Value}, takeW U cs n = some a → CsR U B ι m w cs vs → n ≤ vs.length ∧ CsR U B ι m w a (vs.take n)
  | cs, a, 0, vs, h, _ => by
    have : a = [] := by cases cs <;> simpa [takeW] using h.symm
    subst this
    exact ⟨Nat.zero_le _, by simp [CsR]⟩
  | [], _, _ + 1, _, h, _ => by simp [takeW] at h
  | c :: cs, a, n + 1, vs, h, ⟨x, r, h1, h2, h3⟩ => by
    simp only [takeW] at h
    split at h
    · split at h
      · cases h
      · obtain ⟨a', h4, rfl⟩ := Option.map_eq_some_iff.1 h
        obtain ⟨h5, h6⟩ := takeW_ok hU h4 h3
        have hl := h2.len hU
        subst h1
        refine ⟨by simp; omega, ?_⟩
        refine ⟨x, r.take (n + 1 - c.width U), ?_, h2, h6⟩
        rw [List.take_append, List.take_of_length_le (by omega), hl]
    · cases h

theorem dropW_ok (hU : UOk U) : ∀ {cs a : List (C U.El)} {n : Nat} {vs : List Value}, dropW U cs n = some a → CsR U B ι m w cs vs → n ≤ vs.length ∧ CsR U B ι m w a (vs.drop n)
  | cs, a, 0, vs, h, hc => by
    have : cs = a := by cases cs <;> simpa [dropW] using h
    subst this
    exact ⟨Nat.zero_le _, by simpa using hc⟩
  | [], _, _ + 1, _, h, _ => by simp [dropW] at h
  | c :: cs, a, n + 1, vs, h, ⟨x, r, h1, h2, h3⟩ => by
    simp only [dropW] at h
    split at h
    · split at h
      · cases h
      · obtain ⟨h5, h6⟩ := dropW_ok hU h h3
        have hl := h2.len hU
        subst h1
        refine ⟨by simp; omega, ?_⟩
        rw [List.drop_append, List.drop_of_length_le (by omega), hl, List.nil_append]
        exact h6
    · cases h

theorem getAt_ok (hU : UOk U) {cs a : List (C U.El)} {off n : Nat} {vs : List Value} (h : getAt U cs off n = some a) (hc : CsR U B ι m w cs vs) :
    off + n ≤ vs.length ∧ CsR U B ι m w a ((vs.drop off).take n) := by
  obtain ⟨r, h1, h2⟩ := Option.bind_eq_some_iff.1 h
  obtain ⟨h3, h4⟩ := dropW_ok hU h1 hc
  obtain ⟨h5, h6⟩ := takeW_ok hU h2 h4
  simp at h5
  exact ⟨by omega, h6⟩

theorem putAt_ok (hU : UOk U) {cs a new : List (C U.El)} {off n : Nat} {vs vn : List Value} (h : putAt U cs off n new = some a) (hc : CsR U B ι m w cs vs) (hn : CsR U B ι m w new vn) :
    off + n ≤ vs.length ∧ CsR U B ι m w a (vs.take off ++ (vn ++ vs.drop (off + n))) := by
  obtain ⟨x, h1, h⟩ := Option.bind_eq_some_iff.1 h
  obtain ⟨y, h2, h⟩ := Option.bind_eq_some_iff.1 h
  cases h
  obtain ⟨_, h4⟩ := takeW_ok hU h1 hc
  obtain ⟨h5, h6⟩ := dropW_ok hU h2 hc
  exact ⟨h5, h4.app (hn.app h6)⟩

theorem CR.one : ∀ {c : C U.El} {v : Value}, CR U B ι m w c v → v.oneCell' = true
  | .sc _, _, ⟨h, h'⟩ => h ▸ h'
  | .row .., _, ⟨_, _, h, _⟩ => h ▸ rfl
  | .sl id, _, ⟨_, _, h⟩ => h
  | .sub .., _, ⟨_, _, _, h, _⟩ => h ▸ rfl
  | .arr .., _, h => h.elim
  | .ptr .., _, ⟨_, _, _, h⟩ => h ▸ rfl
  | .pda .., _, ⟨_, _, _, _, _, _, h⟩ => h ▸ rfl
  | .parr .., _, ⟨_, _, _, _, h⟩ => h ▸ rfl
  | .prow .., _, ⟨_, _, _, h, _⟩ => h ▸ rfl
  | .fn .., _, ⟨_, h, _⟩ => h ▸ rfl
  | .bfn .., _, ⟨_, h, _⟩ => h ▸ rfl
  | .fsl .., _, ⟨_, _, _, h⟩ => h ▸ rfl

theorem CW.one (hU : UOk U) : ∀ {c : C U.El} {vs : List Value}, CW U B ι m w c vs → ∀ v ∈ vs, v.oneCell' = true
  | .arr t n l, _, ⟨h1, h2⟩ => by rw [h2]; exact flat_one hU t l
  | .sc _, _, ⟨v, h1, h2⟩ | .row .., _, ⟨v, h1, h2⟩ | .sl _, _, ⟨v, h1, h2⟩ | .sub .., _, ⟨v, h1, h2⟩ | .ptr .., _, ⟨v, h1, h2⟩ | .pda .., _, ⟨v, h1, h2⟩ | .parr .., _, ⟨v, h1, h2⟩
  | .prow .., _, ⟨v, h1, h2⟩ | .fn .., _, ⟨v, h1, h2⟩ | .bfn .., _, ⟨v, h1, h2⟩ | .fsl .., _, ⟨v, h1, h2⟩ => by rw [h1]; intro u hu; rw [List.mem_singleton.1 hu]; exact h2.one

theorem CsR.one (hU : UOk U) : ∀ {cs : List (C U.El)} {vs : List Value}, CsR U B ι m w cs vs → ∀ v ∈ vs, v.oneCell' = true
  | [], _, h => by rw [h]; intro v hv; cases hv
  | c :: cs, _, ⟨a, r, h1, h2, h3⟩ => by
    rw [h1]
    intro v hv
    rcases List.mem_append.1 hv with hv | hv
    · exact h2.one hU v hv
    · exact CsR.one hU h3 v hv

/-- Scalars alone. -/
theorem scs_ok : ∀ {cs : List (C U.El)} {vs us : List Value}, scs cs = some us → CsR U B ι m w cs vs → vs = us
  | [], _, us, h, hc => by cases hc; simpa [scs] using h
  | .sc v :: cs, _, us, h, ⟨a, r, h1, ⟨u, h2, h3, _⟩, h4⟩ => by
    obtain ⟨us', h5, rfl⟩ := Option.map_eq_some_iff.1 (by simpa [scs] using h)
    rw [h1, h2, h3, scs_ok h5 h4]
    rfl
  | .row .. :: _, _, _, h, _ | .sl _ :: _, _, _, h, _ | .sub .. :: _, _, _, h, _ | .arr .. :: _, _, _, h, _ | .ptr .. :: _, _, _, h, _ | .pda .. :: _, _, _, h, _ | .parr .. :: _, _, _, h, _
  | .prow .. :: _, _, _, h, _ | .fn .. :: _, _, _, h, _ | .bfn .. :: _, _, _, h, _ | .fsl .. :: _, _, _, h, _ => by simp [scs] at h

theorem CsR.scs : ∀ {vs : List Value}, (∀ v ∈ vs, v.oneCell' = true) → CsR U B ι m w (vs.map .sc) vs
  | [], _ => rfl
  | v :: vs, h => ⟨[v], vs, rfl, ⟨v, rfl, rfl, h v (by simp)⟩, CsR.scs fun u hu => h u (by simp [hu])⟩

theorem CsR.single : ∀ {c : C U.El} {vs : List Value}, (∀ t n l, c ≠ .arr t n l) → CsR U B ι m w [c] vs → ∃ v, vs = [v] ∧ CR U B ι m w c v
  | .arr t n l, _, h, _ => absurd rfl (h t n l)
  | .sc _, _, _, ⟨a, r, h1, ⟨v, h2, h3⟩, h4⟩ | .row .., _, _, ⟨a, r, h1, ⟨v, h2, h3⟩, h4⟩ | .sl _, _, _, ⟨a, r, h1, ⟨v, h2, h3⟩, h4⟩ | .sub .., _, _, ⟨a, r, h1, ⟨v, h2, h3⟩, h4⟩
  | .ptr .., _, _, ⟨a, r, h1, ⟨v, h2, h3⟩, h4⟩ | .pda .., _, _, ⟨a, r, h1, ⟨v, h2, h3⟩, h4⟩ | .parr .., _, _, ⟨a, r, h1, ⟨v, h2, h3⟩, h4⟩ | .prow .., _, _, ⟨a, r, h1, ⟨v, h2, h3⟩, h4⟩
  | .fn .., _, _, ⟨a, r, h1, ⟨v, h2, h3⟩, h4⟩ | .bfn .., _, _, ⟨a, r, h1, ⟨v, h2, h3⟩, h4⟩ | .fsl .., _, _, ⟨a, r, h1, ⟨v, h2, h3⟩, h4⟩ => ⟨v, by rw [h1, h2, show r = [] from h4]; rfl, h3⟩

theorem CR.cw : ∀ {x : C U.El} {v : Value}, CR U B ι m w x v → CW U B ι m w x [v]
  | .arr .., _, h => h.elim
  | .sc _, v, h | .row .., v, h | .sl _, v, h | .sub .., v, h | .ptr .., v, h | .pda .., v, h | .parr .., v, h | .prow .., v, h | .fn .., v, h | .bfn .., v, h | .fsl .., v, h => ⟨v, rfl, h⟩


end
end Go.Proofs.Ytnjmkkgmlkhjeaa.AM
namespace Go.Proofs.Ytnjmkkgmlkhjeaa.AM
open Go.RowKit

/-- What the program says of a type. -/
def TyOk (P : Program) (U : Univ) (ti : Nat → Option TI) (t : Nat) : Ty → Prop
  | .int k => P.underlying t = some (.int k)
  | .bool => P.underlying t = some .bool
  | .str => P.underlying t = some .string
  | .sl e => P.underlying t = some (.slice e) ∧ ∃ y, ti e = some y ∧ y.size = U.sz e ∧ 0 < y.size ∧ 0 < y.bytes
  | .st fs => ∃ F : Array Field, P.underlying t = some (.struct F) ∧ F.toList.map (fun f => (f.offset, f.type)) = fs ∧ (∃ places, F.toList.mapM (fun f => (P.info? f.type).map fun i => (f.offset, i.size)) = some places) ∧ P.stoodInHeld t = false ∧ P.eqGuardType P.depth t = false ∧ ∀ f ∈ F.toList, f.name ≠ "_"
  | .arr n e => P.underlying t = some (.array n e) ∧ ∃ y, ti e = some y ∧ y.size = U.sz e ∧ 0 < y.size ∧ 0 < y.bytes
  | .ptr e => P.underlying t = some (.pointer e)
  | .slf e => P.underlying t = some (.slice e) ∧ ∃ y, ti e = some y ∧ y.size = 1
  | .other => (P.underlying t).isSome = true ∧ (∀ F, P.underlying t ≠ some (.struct F)) ∧ ∀ n e, P.underlying t ≠ some (.array n e)

def zvals (U : Univ) : List Z → List Value
  | [] => []
  | .int k :: zs => .int k 0 :: zvals U zs
  | .bool :: zs => .bool false :: zvals U zs
  | .str :: zs => .string ⟨#[]⟩ :: zvals U zs
  | .sl :: zs => .slice none 0 0 :: zvals U zs
  | .ptr :: zs => .pointer none :: zvals U zs
  | .func :: zs => .nilFunc :: zvals U zs
  | .arr e n :: zs => flat U e (List.replicate n (U.dflt e)) ++ zvals U zs

structure TIok (P : Program) (U : Univ) (ti : Nat → Option TI) (t : Nat) (x : TI) : Prop where
  ty : TyOk P U ti t x.ty
  info : ∃ i z, P.info? t = some i ∧ i.size = x.size ∧ i.bytes = x.bytes ∧ i.zero = some z ∧ z.cells.toList = zvals U x.zero ∧ (isAggT x = true → ∃ cs, z = .agg cs)
  el : ∀ s n, (x.ty = .sl s ∨ x.ty = .arr n s) → ∀ y, ti s = some y → zvals U y.zero = U.cells s (U.dflt s)

/-- The table and the elements fit the program. -/
structure Fits (P : Program) (U : Univ) (ti : Nat → Option TI) : Prop where
  ti : ∀ t x, ti t = some x → TIok P U ti t x
  U : UOk U
  mixed : P.follows .mixedOrders = true

variable {ρ : Type}

section
variable (P : Program) (G : Cfg) (B : Nat → Prop) (ι : Nat → Value) (m : List (Blk G.U.El)) (w : World)

/-- An operation that turns nothing. -/
def RunsP (s : Sem Value) (K : W G.U.El → Option ρ) (r : ρ) : Prop := ∃ x u, s.run P w = .ok u w ∧ K x = some r ∧ WR G.U B ι m w x u
end

section
variable {P : Program} {G : Cfg} {B : Nat → Prop} {ι : Nat → Value} {m : List (Blk G.U.El)} {w : World} {r : ρ} {K : W G.U.El → Option ρ}

theorem wr_sc {v : Value} (h : v.oneCell' = true) : WR G.U B ι m w (.c (.sc v)) v := by exact And.intro rfl h
theorem vr_sc {v u : Value} (h : VR G.U B ι m w (.w (.c (.sc v))) u) : u = v := And.left h

theorem cond_some {b : Bool} {x y : Option ρ} {r : ρ} : cond b x y = some r ↔ (b = true ∧ x = some r) ∨ (b = false ∧ y = some r) := by cases b <;> simp
theorem cond_n {b : Bool} {y : Option ρ} {r : ρ} : cond b none y = some r ↔ (b = false ∧ y = some r) := by cases b <;> simp
theorem cond_y {b : Bool} {x : Option ρ} {r : ρ} : cond b x none = some r ↔ (b = true ∧ x = some r) := by cases b <;> simp

theorem aInt_ok {op : BinOp} {k yk : IntKind} {a b : Int} (t : TypeId) (hk : op = .shl ∨ op = .shr ∨ k = yk) (h : aInt op k a b K = some r) :
    RunsP P G B ι m w (binOp op t (.int k a) (.int yk b)) K r := by
  cases op <;> simp only [aInt, cond_n] at h
  case shl => exact ⟨_, _, by have := h.1; simp only [decide_eq_false_iff_not, Int.not_lt] at this; simp only [binOp, Op.shift, if_neg (Int.not_lt.2 this), Sem.run_pure], h.2, wr_sc rfl⟩
  case shr => exact ⟨_, _, by have := h.1; simp only [decide_eq_false_iff_not, Int.not_lt] at this; simp only [binOp, Op.shift, if_neg (Int.not_lt.2 this), Sem.run_pure], h.2, wr_sc rfl⟩
  all_goals obtain rfl : k = yk := by simpa using hk
  case quo => exact ⟨_, _, by have h0 : ¬ b = 0 := by simpa using h.1
                              simp only [binOp_quo, Op.intDiv, if_neg h0, Sem.run_pure], h.2, wr_sc rfl⟩
  case rem => exact ⟨_, _, by have h0 : ¬ b = 0 := by simpa using h.1
                              simp only [binOp_rem, Op.intDiv, if_neg h0, Sem.run_pure], h.2, wr_sc rfl⟩
  case add => exact ⟨_, _, by simp only [binOp_add, Op.intArith, Sem.run_pure], h, wr_sc rfl⟩
  case sub => exact ⟨_, _, by simp only [binOp_sub, Op.intArith, Sem.run_pure], h, wr_sc rfl⟩
  case mul => exact ⟨_, _, by simp only [binOp_mul, Op.intArith, Sem.run_pure], h, wr_sc rfl⟩
  case and => exact ⟨_, _, by simp only [binOp_and]; rfl, h, wr_sc rfl⟩
  case or => exact ⟨_, _, by simp only [binOp_or]; rfl, h, wr_sc rfl⟩
  case xor => exact ⟨_, _, by simp only [binOp_xor]; rfl, h, wr_sc rfl⟩
  case andNot => exact ⟨_, _, by simp only [binOp_andNot]; rfl, h, wr_sc rfl⟩
  case eql => exact ⟨_, _, by simp only [binOp_eql, Sem.run_pure], h, wr_sc rfl⟩
  case neq => exact ⟨_, _, by simp only [binOp_neq, Sem.run_pure], h, wr_sc rfl⟩
  case lss => exact ⟨_, _, by simp only [binOp_lss, Sem.run_pure], h, wr_sc rfl⟩
  case leq => exact ⟨_, _, by simp only [binOp_leq, Sem.run_pure], h, wr_sc rfl⟩
  case gtr => exact ⟨_, _, by simp only [binOp_gtr, Sem.run_pure], h, wr_sc rfl⟩
  case geq => exact ⟨_, _, by simp only [binOp_geq, Sem.run_pure], h, wr_sc rfl⟩

theorem aStr_ok {op : BinOp} {a b : ByteArray} (t : TypeId) (h : aStr op a b K = some r) : RunsP P G B ι m w (binOp op t (.string a) (.string b)) K r := by
  have e : ∀ op, binOp op t (.string a) (.string b) = Op.stringOp op a b := fun op => by cases op <;> rfl
  rw [RunsP, e]
  cases op <;> simp only [aStr, cond_n] at h <;> first | contradiction | skip
  case add =>
    obtain ⟨h1, h2⟩ := h
    refine ⟨_, _, ?_, h2, wr_sc rfl⟩
    have h1' : ¬ (((a.size + b.size : Nat) : Int) > IntKind.i64.max) := by simpa using h1
    simp only [Op.stringOp, if_neg h1']
    rfl
  case eql => exact ⟨_, _, rfl, h, wr_sc rfl⟩
  case neq => exact ⟨_, _, rfl, h, wr_sc rfl⟩

theorem aUn_ok {op : UnOp} {x : V G.U.El} {u : Value} (hx : VR G.U B ι m w x u) (h : aUn op x K = some r) : RunsP P G B ι m w (Op.unary op u) K r := by
  unfold aUn at h
  split at h
  · cases vr_sc hx; exact ⟨_, _, rfl, h, wr_sc rfl⟩
  · cases vr_sc hx; exact ⟨_, _, rfl, h, wr_sc rfl⟩
  · cases vr_sc hx; exact ⟨_, _, rfl, h, wr_sc rfl⟩
  · cases h

theorem isAgg_run {t : Nat} {x : TI} (hx : TIok P G.U G.ti t x) : (isAgg t).run P w = .ok (isAggT x) w := by
  have h := hx.ty
  unfold isAgg isAggT
  cases hty : x.ty <;> rw [hty] at h <;> simp only [TyOk] at h
  case int => simp [run_underlying h]
  case bool => simp [run_underlying h]
  case str => simp [run_underlying h]
  case sl => simp [run_underlying h.1]
  case slf => simp [run_underlying h.1]
  case st => obtain ⟨F, h, _⟩ := h; simp [run_underlying h]
  case arr => simp [run_underlying h.1]
  case ptr => simp [run_underlying h]
  case other =>
    obtain ⟨h1, h2, h3⟩ := h
    obtain ⟨d, hd⟩ := Option.isSome_iff_exists.1 h1
    simp only [Sem.run_bind, run_underlying hd, Result.andThen_ok]
    cases d <;> first | rfl | exact absurd hd (h2 _) | exact absurd hd (h3 _ _)

theorem sizeOf_run {t : Nat} {x : TI} (hx : TIok P G.U G.ti t x) : (sizeOf t).run P w = .ok x.size w := by
  obtain ⟨i, z, hi, hs, _⟩ := hx.info
  simp [sizeOf, typeInfo, hi, hs]

theorem loadVar_ok {t : Nat} {x : TI} (hx : TIok P G.U G.ti t x) {cs : List (C G.U.El)} {seg : List Value} (b o : Nat) (hseg : ∀ j v, seg[j]? = some v → w.cell? ⟨b, o + j, none⟩ = some v)
    (hlen : seg.length = x.size) (hc : CsR G.U B ι m w cs seg) {y : W G.U.El} (hy : mkW x cs = some y) : ∃ u, (loadVar t ⟨b, o, none⟩).run P w = .ok u w ∧ WR G.U B ι m w y u := by
  unfold mkW at hy
  simp only [loadVar, Sem.run_bind, isAgg_run hx, Result.andThen_ok]
  split at hy
  · rename_i ha
    cases hy
    rw [if_pos ha]
    refine ⟨.agg seg.toArray, ?_, seg, rfl, hc⟩
    simp only [Sem.run_bind, sizeOf_run hx, Result.andThen_ok]
    rw [← hlen, run_loadCells_list w ⟨b, o, none⟩ seg (fun j v hv => by rw [Addr.add_lit]; exact hseg j v hv)]
    rfl
  · rename_i ha
    rw [if_neg ha]
    split at hy
    · cases hy
    · rename_i c hne
      cases hy
      obtain ⟨v, hv, hr⟩ := hc.single (fun t n l e => hne t n l (by rw [e]))
      refine ⟨v, ?_, hr⟩
      have := hseg 0 v (by rw [hv]; rfl)
      simp only [Nat.add_zero] at this
      simp [run_load, this]
    · cases hy

theorem part_ok {t : Nat} {x : TI} (hx : TIok P G.U G.ti t x) {cs : List (C G.U.El)} (all : List Value) (o : Nat) (hlen : o + x.size ≤ all.length)
    (hc : CsR G.U B ι m w cs ((all.drop o).take x.size)) {y : W G.U.El} (hy : mkW x cs = some y) : ∃ u, (part t all.toArray o).run P w = .ok u w ∧ WR G.U B ι m w y u := by
  unfold mkW at hy
  simp only [part, Sem.run_bind, isAgg_run hx, Result.andThen_ok]
  split at hy
  · rename_i ha
    cases hy
    rw [if_pos ha]
    refine ⟨.agg (((all.drop o).take x.size).toArray), ?_, _, rfl, hc⟩
    simp only [Sem.run_bind, sizeOf_run hx, Result.andThen_ok]
    have : all.toArray.extract o (o + x.size) = ((all.drop o).take x.size).toArray := by
      simp [List.extract_toArray, List.extract_eq_take_drop]
    rw [this]
    rfl
  · rename_i ha
    rw [if_neg ha]
    split at hy
    · cases hy
    · rename_i c hne
      cases hy
      obtain ⟨v, hv, hr⟩ := hc.single (fun t n l e => hne t n l (by rw [e]))
      refine ⟨v, ?_, hr⟩
      have h0 : ((all.drop o).take x.size)[0]? = some v := by rw [hv]; rfl
      rw [List.getElem?_take] at h0
      split at h0
      · rw [List.getElem?_drop, Nat.add_zero] at h0
        simp [h0]
      · cases h0
    · cases hy

/-- The elements' cells, read as scalars. -/
theorem elem_cs (hU : UOk G.U) {t : Nat} {y : G.U.El t} {off size : Nat} {cs : List (C G.U.El)} (h : elemAt G t y off size = some cs) :
    off + size ≤ (G.U.cells t y).length ∧ CsR G.U B ι m w cs (((G.U.cells t y).drop off).take size) := by
  unfold elemAt at h
  split at h
  · cases h
    exact ⟨by rw [hU.len]; assumption, CsR.scs fun v hv => hU.one t y v (List.mem_of_mem_drop (List.mem_of_mem_take hv))⟩
  · cases h

/-- An element's part, out of a row that lies at a place. -/
theorem loadElem_ok (hU : UOk G.U) {t : Nat} {x : TI} (hx : TIok P G.U G.ti t x) {e : Nat} {l : List (G.U.El e)} {i off : Nat} (hi : i < l.length) (b o : Nat)
    (hseg : ∀ j v, (flat G.U e l)[j]? = some v → w.cell? ⟨b, o + j, none⟩ = some v) {z : W G.U.El} (hz : (elemAt G e (rd (G.U.dflt e) l i) off x.size).bind (mkW x) = some z) :
    ∃ u, (loadVar t ⟨b, o + (i * G.U.sz e + off), none⟩).run P w = .ok u w ∧ WR G.U B ι m w z u := by
  obtain ⟨cs, h1, h2⟩ := Option.bind_eq_some_iff.1 hz
  obtain ⟨h3, h4⟩ := elem_cs (B := B) (ι := ι) (m := m) (w := w) hU h1
  refine loadVar_ok hx b _ (seg := ((G.U.cells e (rd (G.U.dflt e) l i)).drop off).take x.size) (fun j v hv => ?_) (by simp; omega) h4 h2
  rw [List.getElem?_take] at hv
  split at hv
  · rw [List.getElem?_drop] at hv
    have := hseg _ _ (flat_get hU e l i hi _ _ _ hv)
    rwa [show o + (i * G.U.sz e + off) + j = o + (i * G.U.sz e + (off + j)) by omega]
  · cases hv

theorem aLoad_ok (hF : Fits P G.U G.ti) {S : Nat → Prop} (hm : MR G.U B S ι m w) {t : Nat} {a : V G.U.El} {u : Value} (ha : VR G.U B ι m w a u) (h : aLoad G t a m K = some r) :
    RunsP P G B ι m w (Instr.loadAt t u) K r := by
  unfold aLoad at h
  split at h
  · cases h
  rename_i x hx
  have hti := hF.ti t x hx
  have fin : ∀ {y : Option (W G.U.El)} {b o : Nat}, u = .pointer (some ⟨b, o, none⟩) → y.elim none K = some r →
      (∀ z, y = some z → ∃ v, (loadVar t ⟨b, o, none⟩).run P w = .ok v w ∧ WR G.U B ι m w z v) → RunsP P G B ι m w (Instr.loadAt t u) K r := by
    intro y b o hu hk hl
    cases y with
    | none => cases hk
    | some z =>
      obtain ⟨v, h1, h2⟩ := hl z rfl
      refine ⟨z, v, ?_, hk, h2⟩
      rw [hu]
      simp [Instr.loadAt, Instr.sureAddr, h1]
  split at h
  · rename_i id off
    obtain ⟨hid, β, h1, h2⟩ := ha
    split at h
    · rename_i t' cs hm'
      obtain ⟨β', vs, h3, h4, h5⟩ := hm.blk _ _ hm'
      rw [h1] at h3
      cases h3
      refine fin h2 h fun z hz => ?_
      obtain ⟨cs', h6, h7⟩ := Option.bind_eq_some_iff.1 hz
      obtain ⟨h8, h9⟩ := getAt_ok hF.U h6 h5
      refine loadVar_ok hti β off (seg := (vs.toList.drop off).take x.size) (fun j v hv => ?_) (by simp at h8 ⊢; omega) h9 h7
      rw [List.getElem?_take] at hv
      split at hv
      · rw [List.getElem?_drop] at hv
        simp [World.cell?, h4, ← hv]
      · cases hv
    · cases h
  · rename_i id t' i off
    obtain ⟨hid, g, n, c, h1, h2, h3⟩ := ha
    split at h
    · rename_i e l hm'
      split at h
      · rename_i hte
        subst hte
        have hb := hm.blk _ _ hm'
        simp only [BR, h1] at hb
        have hn : l.length = n := by
          rcases hb.2 with ⟨h', _⟩ | ⟨g', cap', cur, h', _⟩
          · simp at h'
          · simp at h'; exact h'.2.1.symm
        subst hn
        refine fin h3 h fun z hz => ?_
        have := loadElem_ok (w := w) (B := B) (ι := ι) (m := m) hF.U hti h2 g 0 (fun j v hj => ?_) hz
        · simpa using this
        · have hlt := (List.getElem?_eq_some_iff.1 hj).1
          rw [flat_len hF.U] at hlt
          rw [Nat.zero_add, World.ownsRow.cellAt hb j hlt, hj]
      · cases h
    · cases h
  · rename_i e l i off
    obtain ⟨hi, b, o, h1, h2⟩ := ha
    refine fin h1 h fun z hz => ?_
    exact loadElem_ok hF.U hti hi b o (fun j v hj => by
      obtain ⟨b', o', h3, h4, _⟩ := h2 j v hj
      cases h3
      exact h4) hz
  · rename_i id e' n f i off
    obtain ⟨hid, hi, β, h1, h2⟩ := ha
    split at h
    · rename_i t' cs hm'
      obtain ⟨β', vs, h3, h4, h5⟩ := hm.blk _ _ hm'
      rw [h1] at h3
      cases h3
      split at h
      · rename_i e n' l rest hd
        split at h
        · rename_i hee
          subst hee
          split at h
          · rename_i hnn
            subst hnn
            obtain ⟨h6, a, r', h7, ⟨h8, h9⟩, _⟩ := dropW_ok hF.U hd h5
            refine fin h2 h fun z hz => ?_
            have := loadElem_ok (w := w) (B := B) (ι := ι) (m := m) hF.U hti (h8.symm ▸ hi) β f (fun j v hj => ?_) hz
            · simpa [Nat.add_assoc] using this
            · rw [← h9] at hj
              have : (vs.toList.drop f)[j]? = some v := by rw [h7, List.getElem?_append_left (List.getElem?_eq_some_iff.1 hj).1]; exact hj
              rw [List.getElem?_drop] at this
              simp [World.cell?, h4, ← this]
          · cases h
        · cases h
      · cases h
    · cases h
  · cases h

theorem cells_one {v : Value} (h : v.oneCell' = true) : v.cells.toList = [v] := by
  cases v <;> first | rfl | (simp [Value.oneCell'] at h)

theorem WR.cells : ∀ {y : W G.U.El} {v : Value}, WR G.U B ι m w y v → CsR G.U B ι m w y.cells v.cells.toList
  | .agg xs, _, ⟨vs, h1, h2⟩ => by rw [h1]; exact h2
  | .c x, v, h => by
    have h0 : CR G.U B ι m w x v := h
    rw [cells_one h0.one]
    exact ⟨[v], [], rfl, h0.cw, rfl⟩

theorem flat_set (hU : UOk G.U) (t : Nat) (l : List (G.U.El t)) (i : Nat) (hi : i < l.length) (y : G.U.El t) :
    flat G.U t (l.set i y) = (flat G.U t l).take (i * G.U.sz t) ++ (G.U.cells t y ++ (flat G.U t l).drop (i * G.U.sz t + G.U.sz t)) := by
  induction l generalizing i with
  | nil => simp at hi
  | cons z l ih =>
    have e : ∀ (z : G.U.El t) l, flat G.U t (z :: l) = G.U.cells t z ++ flat G.U t l := fun z l => by simp [flat]
    have hz := hU.len t z
    cases i with
    | zero => simp [e, List.drop_append, hz]
    | succ i =>
      have := ih i (by simpa using hi)
      rw [List.set_cons_succ, e, this, e, show (i + 1) * G.U.sz t = (G.U.cells t z).length + i * G.U.sz t by rw [hz, Nat.add_mul]; omega, List.take_length_add_append, List.append_assoc,
        show (G.U.cells t z).length + i * G.U.sz t + G.U.sz t = (G.U.cells t z).length + (i * G.U.sz t + G.U.sz t) by omega, List.drop_length_add_append]

theorem setElem_ok (hU : UOk G.U) {t : Nat} {l l' : List (G.U.El t)} {i off : Nat} {vs : List Value} (hi : i < l.length) (h : setElem G t l i off vs = some l') :
    l'.length = l.length ∧ i * G.U.sz t + off + vs.length ≤ (flat G.U t l).length ∧
    flat G.U t l' = (flat G.U t l).take (i * G.U.sz t + off) ++ (vs ++ (flat G.U t l).drop (i * G.U.sz t + off + vs.length)) := by
  unfold setElem at h
  split at h
  · rename_i hle
    obtain ⟨y, h1, rfl⟩ := Option.map_eq_some_iff.1 h
    have hy := hU.back _ _ _ h1
    have hlen : i * G.U.sz t + G.U.sz t ≤ (flat G.U t l).length := by
      rw [flat_len hU]
      calc i * G.U.sz t + G.U.sz t = (i + 1) * G.U.sz t := by rw [Nat.add_mul]; omega
        _ ≤ l.length * G.U.sz t := Nat.mul_le_mul_right _ hi
    refine ⟨by simp, by omega, ?_⟩
    rw [flat_set hU t l i hi, hy, ← flat_at hU t l i hi]
    generalize flat G.U t l = F at *
    generalize i * G.U.sz t = a at *
    generalize G.U.sz t = s at *
    rw [List.take_add, List.append_assoc, List.append_assoc, List.append_assoc]
    congr 1
    rw [List.take_take, Nat.min_eq_left (by omega)]
    congr 2
    rw [show a + off + vs.length = a + (off + vs.length) by omega, ← List.drop_drop (i := off + vs.length), ← List.drop_drop (i := s)]
    have hH : s ≤ (F.drop a).length := by simp; omega
    generalize F.drop a = H at *
    have h := List.drop_append_of_le_length (l₁ := H.take s) (l₂ := H.drop s) (i := off + vs.length) (by simp; omega)
    rw [List.take_append_drop] at h
    exact h.symm
  · cases h

theorem take_mid {α : Type} (c vs : List α) (k n : Nat) (h : k + vs.length ≤ n) (hn : n ≤ c.length) :
    (c.take k ++ (vs ++ c.drop (k + vs.length))).take n = (c.take n).take k ++ (vs ++ (c.take n).drop (k + vs.length)) := by
  have hk : (c.take k).length = k := by simp; omega
  rw [List.take_append, List.take_append, hk, List.take_of_length_le (by omega : (c.take k).length ≤ n), List.take_of_length_le (by omega : vs.length ≤ n - k),
    List.take_take, Nat.min_eq_left (by omega), List.drop_take]
  congr 3
  omega

theorem Fr.of_grown {S : Nat → Prop} {w w' : World} {row : Option Nat} (h : w.grownBy w' row) (hS : ∀ k, row = some k → S k) : Fr S w w' :=
  ⟨h.os, h.tape, h.output, h.size, fun k hk hs => h.block k hk fun e => hs (hS k e.symm)⟩

theorem setRow_grown (w : World) (g : Nat) (cs : Array Value) : w.grownBy (w.setRow g cs) (some g) :=
  ⟨rfl, rfl, rfl, by simp [World.setRow], fun k _ hk => setRow_other w g k cs (fun e => hk (by rw [e]))⟩

theorem aStore_ok (hF : Fits P G.U G.ti) {S : Nat → Prop} (hm : MR G.U B S ι m w) {t : Nat} {a v : V G.U.El} {u uv : Value} (ha : VR G.U B ι m w a u) (hv : VR G.U B ι m w v uv) {m' : List (Blk G.U.El)}
    (h : aStore G t a v m = some m') : ∃ w', (Instr.storeAt t u uv).run P w = .ok () w' ∧ Grow G.U ι m w ι m' w' ∧ MR G.U B S ι m' w' ∧ Fr S w w' := by
  unfold aStore at h
  split at h
  case h_2 => cases h
  rename_i x y hx
  have hti := hF.ti t x hx
  have hcv := WR.cells hv
  -- the store's run at a block
  have fin : ∀ {β : Nat} {o : Nat} {vs : Array Value} {t' : Nat}, u = .pointer (some ⟨β, o, none⟩) → uv.cells.toList.length = x.size → w.heap[β]? = some (.cells vs t' (0, 0)) → o + uv.cells.toList.length ≤ vs.size →
      (Instr.storeAt t u uv).run P w = .ok () (w.setRow β (vs.toList.take o ++ (uv.cells.toList ++ vs.toList.drop (o + uv.cells.toList.length))).toArray) := by
    intro β o vs t' hu hl hb ho
    have := run_storeCells_at (P := P) β o t' uv.cells.toList 0 vs w hb (by simpa using ho) (hcv.one hF.U)
    simp only [Nat.add_zero, List.append_assoc] at this
    rw [hu]
    simp only [Array.length_toList] at hl
    simp [Instr.storeAt, Instr.sureAddr, storeVar, sizeOf_run hti, hl, this]
  split at h
  · rename_i id off
    obtain ⟨hid, β, h1, h2⟩ := ha
    split at h
    · rename_i t' cs hm'
      obtain ⟨β', vs, h3, h4, h5⟩ := hm.blk _ _ hm'
      rw [h1] at h3
      cases h3
      split at h
      · rename_i hwd
        obtain ⟨cs', h6, rfl⟩ := Option.map_eq_some_iff.1 h
        have hlen := hcv.len hF.U
        obtain ⟨h7, h8⟩ := putAt_ok hF.U h6 h5 hcv
        have h8' : CsR G.U B ι m w cs' (vs.toList.take off ++ (uv.cells.toList ++ vs.toList.drop (off + uv.cells.toList.length))) := by rw [hlen, hwd]; exact h8
        have hrun := fin h2 (hlen.trans hwd) h4 (by rw [hlen, hwd]; simpa using h7)
        have hgr := setRow_grown w β (vs.toList.take off ++ (uv.cells.toList ++ vs.toList.drop (off + uv.cells.toList.length))).toArray
        have hw := hm.write (w' := w.setRow β (vs.toList.take off ++ (uv.cells.toList ++ vs.toList.drop (off + uv.cells.toList.length))).toArray) id _ (.st t' cs') hm' trivial hgr.size (fun k hk hne => hgr.block k hk (fun e => hne (by rw [h1]; exact e.symm))) (fun hg =>
          ⟨β, _, h1, setRow_heap w β vs _ t' (0, 0) h4, by
            rw [List.toList_toArray]
            exact h8'.grow hg⟩)
        exact ⟨_, hrun, hw.1, hw.2, Fr.of_grown hgr fun k hk => by cases hk; exact hm.inS id _ _ hm' trivial (by rw [h1]; rfl)⟩
      · cases h
    · cases h
  · rename_i id t' i off
    obtain ⟨hid, g, n, c, h1, h2, h3⟩ := ha
    split at h
    · rename_i e l hm'
      split at h
      · rename_i hte
        subst hte
        obtain ⟨us, h4, h5⟩ := Option.bind_eq_some_iff.1 h
        split at h5
        · rename_i hul
          obtain ⟨l', h6, rfl⟩ := Option.map_eq_some_iff.1 h5
          have hus := scs_ok h4 hcv
          have hb := hm.blk _ _ hm'
          simp only [BR, h1] at hb
          obtain ⟨hb1, hb2⟩ := hb
          rcases hb2 with ⟨h', _⟩ | ⟨g', cap', cur, h', hz, hg, hnc, hcm, hcs, htk⟩
          · simp at h'
          simp only [Value.slice.injEq, Option.some.injEq, Addr.mk.injEq, and_true] at h'
          obtain ⟨rfl, rfl, rfl⟩ := h'
          obtain ⟨h7, h8, h9⟩ := setElem_ok hF.U h2 h6
          subst hus
          have hfl : (flat G.U t' l).length ≤ cur.size := by rw [← htk]; simp; omega
          have hrun := fin h3 hul hg (by omega)
          have hk : i * G.U.sz t' + off + uv.cells.size ≤ cur.size := by
            rw [Array.length_toList] at h8
            omega
          have hgr := setRow_grown w g (cur.toList.take (i * G.U.sz t' + off) ++ (uv.cells.toList ++ cur.toList.drop (i * G.U.sz t' + off + uv.cells.toList.length))).toArray
          have hw := hm.write (w' := w.setRow g (cur.toList.take (i * G.U.sz t' + off) ++ (uv.cells.toList ++ cur.toList.drop (i * G.U.sz t' + off + uv.cells.toList.length))).toArray) id _ (.da t' l') hm' trivial hgr.size (fun k hk hne => hgr.block k hk (fun e => hne (by rw [h1]; exact e.symm))) (fun hg' => by
            refine ⟨flat_len hF.U _ _, .inr ⟨g, c, _, by rw [h1, h7], Nat.zero_le _, setRow_heap w g cur _ t' (0, 0) hg, by rw [h7]; exact hnc, hcm, ?_, ?_⟩⟩
            · simp; omega
            · rw [h9, h7, ← htk, List.toList_toArray]
              refine take_mid _ _ _ _ ?_ (by simp; rw [hcs]; exact Nat.mul_le_mul_right _ hnc)
              rw [flat_len hF.U] at h8
              exact h8)
          exact ⟨_, hrun, hw.1, hw.2, Fr.of_grown hgr fun k hk => by cases hk; exact hm.inS id _ _ hm' trivial (by rw [h1]; rfl)⟩
        · cases h5
      · cases h
    · cases h
  · rename_i id e' n f i off
    obtain ⟨hid, hi, β, h1, h2⟩ := ha
    split at h
    · rename_i t' cs hm'
      obtain ⟨β', vs, h3, h4, h5⟩ := hm.blk _ _ hm'
      rw [h1] at h3
      cases h3
      split at h
      · rename_i ca e k l cb hta hdr
        split at h
        · rename_i hee
          subst hee
          split at h
          · rename_i hkn
            subst hkn
            obtain ⟨us, h6, h7⟩ := Option.bind_eq_some_iff.1 h
            split at h7
            · rename_i hul
              obtain ⟨l', h8, rfl⟩ := Option.map_eq_some_iff.1 h7
              have hus := scs_ok h6 hcv
              subst hus
              obtain ⟨hf1, hta'⟩ := takeW_ok hF.U hta h5
              obtain ⟨_, va, vr, hv1, ⟨hv2, hv3⟩, hv4⟩ := dropW_ok hF.U hdr h5
              obtain ⟨h9, h10, h11⟩ := setElem_ok hF.U (hv2.symm ▸ hi) h8
              have hlen : f + (flat G.U e' l).length ≤ vs.toList.length := by
                have := congrArg List.length hv1
                rw [List.length_append, hv3, List.length_drop] at this
                omega
              have hX : vs.toList.take (f + (i * G.U.sz e' + off)) ++ (uv.cells.toList ++ vs.toList.drop (f + (i * G.U.sz e' + off) + uv.cells.toList.length)) = vs.toList.take f ++ (flat G.U e' l' ++ vr) := by
                rw [h11, List.take_add, hv1, hv3, show f + (i * G.U.sz e' + off) + uv.cells.toList.length = f + (i * G.U.sz e' + off + uv.cells.toList.length) by omega, ← List.drop_drop, hv1, hv3,
                  List.take_append_of_le_length (by omega), List.drop_append_of_le_length h10]
                simp only [List.append_assoc]
              have hrun := fin (o := f + (i * G.U.sz e' + off)) (by rw [h2, Nat.add_assoc]) hul h4 (by simp only [Array.length_toList] at hlen h10 ⊢; omega)
              have hgr := setRow_grown w β (vs.toList.take (f + (i * G.U.sz e' + off)) ++ (uv.cells.toList ++ vs.toList.drop (f + (i * G.U.sz e' + off) + uv.cells.toList.length))).toArray
              have hw := hm.write (w' := w.setRow β (vs.toList.take (f + (i * G.U.sz e' + off)) ++ (uv.cells.toList ++ vs.toList.drop (f + (i * G.U.sz e' + off) + uv.cells.toList.length))).toArray) id _ (.st t' (ca ++ .arr e' k l' :: cb)) hm' trivial hgr.size (fun k hk hne => hgr.block k hk (fun e => hne (by rw [h1]; exact e.symm))) (fun hg =>
                ⟨β, _, h1, setRow_heap w β vs _ t' (0, 0) h4, by
                  have hb : CsR G.U B ι _ _ (.arr e' k l' :: cb) (flat G.U e' l' ++ vr) := ⟨_, vr, rfl, ⟨h9.trans hv2, rfl⟩, hv4.grow hg⟩
                  have hc := (hta'.grow hg).app hb
                  rw [← hX] at hc
                  rw [List.toList_toArray]
                  exact hc⟩)
              exact ⟨_, hrun, hw.1, hw.2, Fr.of_grown hgr fun k hk => by cases hk; exact hm.inS id _ _ hm' trivial (by rw [h1]; rfl)⟩
            · cases h7
          · cases h
        · cases h
      · cases h
    · cases h
  · cases h
end
end Go.Proofs.Ytnjmkkgmlkhjeaa.AM
namespace Go.Proofs.Ytnjmkkgmlkhjeaa.AM
open Go.RowKit

/-! A seat's table of types, and its check. -/
inductive Tree (α : Type 1) : Type 1 where
  | nil
  | node (l : Tree α) (k : Nat) (x : α) (r : Tree α)
def Tree.look {α : Type 1} (d : α) : Tree α → Nat → α
  | .nil, _ => d
  | .node l k x r, t => cond (Nat.blt t k) (l.look d t) (cond (Nat.beq t k) x (r.look d t))
def Tree.All {α : Type 1} (p : α → Prop) : Tree α → Prop
  | .nil => True
  | .node l _ x r => l.All p ∧ p x ∧ r.All p
theorem Tree.look_all {α : Type 1} {p : α → Prop} {d : α} (hd : p d) : ∀ {T : Tree α}, T.All p → ∀ t, p (T.look d t)
  | .nil, _, _ => hd
  | .node l k x r, h, t => by
    unfold Tree.look
    cases Nat.blt t k with
    | true => exact look_all hd h.1 t
    | false => cases Nat.beq t k with
      | true => exact h.2.1
      | false => exact look_all hd h.2.2 t

inductive TTree where
  | nil
  | node (l : TTree) (k : Nat) (x : TI) (r : TTree)
def TTree.look : TTree → Nat → Option TI
  | .nil, _ => none
  | .node l k x r, t => cond (Nat.blt t k) (l.look t) (cond (Nat.beq t k) (some x) (r.look t))
def TTree.all (p : Nat → TI → Bool) : TTree → Bool
  | .nil => true
  | .node l k x r => l.all p && p k x && r.all p
theorem TTree.look_all {p : Nat → TI → Bool} : ∀ {T : TTree}, T.all p = true → ∀ {t x}, T.look t = some x → p t x = true
  | .nil, _, _, _, h => by cases h
  | .node l k x r, h, t, y, hy => by
    simp only [TTree.all, Bool.and_eq_true] at h
    unfold TTree.look at hy
    cases hb : Nat.blt t k with
    | true => rw [hb] at hy; exact look_all h.1.1 hy
    | false =>
      rw [hb] at hy
      cases hc : Nat.beq t k with
      | true =>
        rw [hc] at hy
        cases hy
        rw [Nat.eq_of_beq_eq_true hc]
        exact h.1.2
      | false => rw [hc] at hy; exact look_all h.2 hy

/-- A leaf of an element. -/
inductive LK where
  | int (k : IntKind) | bool | str
def LK.T : LK → Type
  | .int _ => Int
  | .bool => Bool
  | .str => ByteArray
def LK.val : (k : LK) → k.T → Value
  | .int k, n => .int k n
  | .bool, b => .bool b
  | .str, s => .string s
def LK.of : (k : LK) → Value → Option k.T
  | .int k => fun v => match v with | .int k' n => if k = k' then some n else none | _ => none
  | .bool => fun v => match v with | .bool b => some b | _ => none
  | .str => fun v => match v with | .string s => some s | _ => none
def LK.zero : (k : LK) → k.T
  | .int _ => (0 : Int)
  | .bool => false
  | .str => (⟨#[]⟩ : ByteArray)
/-- The leaves of an element: the last stands alone. -/
def LTup : List LK → Type
  | [] => Unit
  | [k] => k.T
  | k :: k' :: ks => k.T × LTup (k' :: ks)
def LTup.vals : (ks : List LK) → LTup ks → List Value
  | [], _ => []
  | [k], x => [k.val x]
  | k :: k' :: ks, x => k.val x.1 :: LTup.vals (k' :: ks) x.2
def LTup.of : (ks : List LK) → List Value → Option (LTup ks)
  | [] => fun vs => match vs with | [] => some () | _ :: _ => none
  | [k] => fun vs => match vs with | [v] => k.of v | _ => none
  | k :: k' :: ks => fun vs => match vs with | v :: vs => (k.of v).bind fun x => (LTup.of (k' :: ks) vs).bind fun y => some (x, y) | [] => none
def LTup.zero : (ks : List LK) → LTup ks
  | [] => ()
  | [k] => k.zero
  | k :: k' :: ks => (k.zero, LTup.zero (k' :: ks))
def kOf : List LK → Option IntKind
  | [.int k] => some k
  | _ => none

/-- An element that is told by its leaves. -/
def entOf (ks : List LK) {α : Type} (to : α → LTup ks) (frm : LTup ks → α) (d : α) : Ent := ⟨α, fun x => LTup.vals ks (to x), fun vs => (LTup.of ks vs).map frm, d, kOf ks⟩

theorem LK.of_val {k : LK} {v : Value} {x : k.T} (h : k.of v = some x) : k.val x = v := by
  cases k <;> cases v <;> simp only [LK.of] at h <;> first | (cases h; done) | skip
  · split at h
    · rename_i hk; cases h; rw [hk]; rfl
    · cases h
  · cases h; rfl
  · cases h; rfl
theorem LTup.of_vals : ∀ {ks : List LK} {vs : List Value} {x : LTup ks}, LTup.of ks vs = some x → LTup.vals ks x = vs
  | [], vs, _, h => by
    cases vs with
    | nil => rfl
    | cons => cases h
  | [k], vs, x, h => by
    rcases vs with _ | ⟨v, _ | ⟨_, _⟩⟩
    · cases h
    · exact congrArg (fun v => [v]) (LK.of_val (k := k) h)
    · cases h
  | k :: k' :: ks, vs, x, h => by
    cases vs with
    | nil => cases h
    | cons v vs =>
      obtain ⟨y, h1, h⟩ := Option.bind_eq_some_iff.1 (show ((k.of v).bind fun x => (LTup.of (k' :: ks) vs).bind fun y => some (x, y)) = some x from h)
      obtain ⟨z, h2, h⟩ := Option.bind_eq_some_iff.1 h
      cases h
      simp only [LTup.vals]
      rw [LK.of_val h1, LTup.of_vals h2]
theorem LTup.vals_len : ∀ {ks : List LK} (x : LTup ks), (LTup.vals ks x).length = ks.length
  | [], _ => rfl
  | [_], _ => rfl
  | _ :: _ :: _, x => by simp only [LTup.vals, List.length_cons]; rw [LTup.vals_len x.2]; rfl
theorem LTup.vals_one : ∀ {ks : List LK} (x : LTup ks), ∀ u ∈ LTup.vals ks x, u.oneCell' = true
  | [], _, u, h => by simp [LTup.vals] at h
  | [k], x, u, h => by
    simp only [LTup.vals, List.mem_singleton] at h
    subst h
    cases k <;> rfl
  | k :: k' :: ks, x, u, h => by
    simp only [LTup.vals, List.mem_cons] at h
    rcases h with rfl | h
    · cases k <;> rfl
    · exact LTup.vals_one x.2 u h

structure EntOk (e : Ent) : Prop where
  len : ∀ y, (e.cells y).length = (e.cells e.dflt).length
  back : ∀ vs y, e.back vs = some y → e.cells y = vs
  one : ∀ y, ∀ u ∈ e.cells y, u.oneCell' = true
  int : ∀ k, e.k = some k → ∀ y, ∃ n, e.cells y = [.int k n]

theorem entOk {ks : List LK} {α : Type} {to : α → LTup ks} {frm : LTup ks → α} {d : α} (h : ∀ x, to (frm x) = x) : EntOk (entOf ks to frm d) where
  len y := by simp only [entOf]; rw [LTup.vals_len, LTup.vals_len]
  back vs y hb := by
    simp only [entOf] at hb ⊢
    obtain ⟨x, hx, rfl⟩ := Option.map_eq_some_iff.1 hb
    rw [h, LTup.of_vals hx]
  one y := LTup.vals_one _
  int k hk y := by
    match ks, to, frm, h, hk with
    | [.int k'], to, frm, h, hk => cases hk; exact ⟨to y, rfl⟩
    | [.bool], _, _, _, hk => cases hk
    | [.str], _, _, _, hk => cases hk
    | [], _, _, _, hk => cases hk
    | _ :: _ :: _, _, _, _, hk => simp [entOf, kOf] at hk

def ent0 : Ent := entOf [] (fun x : Unit => x) (fun x => x) ()
theorem uOk {T : Tree Ent} (h : T.All EntOk) : UOk ⟨T.look ent0⟩ := by
  have key := fun t => Tree.look_all (p := EntOk) (d := ent0) (entOk fun _ => rfl) h t
  exact ⟨fun t y => (key t).len y, fun t vs y => (key t).back vs y, fun t y => (key t).one y, fun t k hk y => (key t).int k hk y⟩

def vEq : Value → Value → Bool
  | .int k a, .int k' b => decide (k = k') && decide (a = b)
  | .bool a, .bool b => decide (a = b)
  | .string a, .string b => decide (a.data.toList = b.data.toList)
  | .slice none 0 0, .slice none 0 0 => true
  | .pointer none, .pointer none => true
  | .nilFunc, .nilFunc => true
  | _, _ => false
def vsEq : List Value → List Value → Bool
  | [], [] => true
  | a :: as, b :: bs => vEq a b && vsEq as bs
  | _, _ => false
theorem vEq_eq {a b : Value} (h : vEq a b = true) : a = b := by
  unfold vEq at h
  split at h
  · simp at h; rw [h.1, h.2]
  · simp at h; rw [h]
  · rename_i a b
    have h1 := of_decide_eq_true h
    have h2 : a.data = b.data := Array.toList_inj.1 h1
    cases a; cases b
    cases h2
    rfl
  · rfl
  · rfl
  · rfl
  · cases h
theorem vsEq_eq : ∀ {a b : List Value}, vsEq a b = true → a = b
  | [], [], _ => rfl
  | [], _ :: _, h => by cases h
  | _ :: _, [], h => by cases h
  | a :: as, b :: bs, h => by
    simp only [vsEq, Bool.and_eq_true] at h
    rw [vEq_eq h.1, vsEq_eq h.2]

def elB (U : Univ) (ti : Nat → Option TI) (e : Nat) : Bool := match ti e with
  | some y => Nat.beq y.size (U.sz e) && Nat.blt 0 y.size && Nat.blt 0 y.bytes && vsEq (zvals U y.zero) (U.cells e (U.dflt e))
  | none => false
def fsEq : List Field → List (Nat × Nat) → Bool
  | [], [] => true
  | f :: fs, p :: ps => Nat.beq f.offset p.1 && Nat.beq f.type p.2 && f.name != "_" && fsEq fs ps
  | _, _ => false
def tyB (P : Program) (U : Univ) (ti : Nat → Option TI) (t : Nat) : Ty → Bool
  | .int k => match P.underlying t with | some (.int k') => decide (k = k') | _ => false
  | .bool => match P.underlying t with | some .bool => true | _ => false
  | .str => match P.underlying t with | some .string => true | _ => false
  | .sl e => (match P.underlying t with | some (.slice e') => Nat.beq e e' | _ => false) && elB U ti e
  | .st fs => match P.underlying t with
    | some (.struct F) => fsEq F.toList fs && (F.toList.mapM (fun f => (P.info? f.type).map fun i => (f.offset, i.size))).isSome && !P.stoodInHeld t && !P.eqGuardType P.depth t
    | _ => false
  | .arr n e => (match P.underlying t with | some (.array n' e') => Nat.beq n n' && Nat.beq e e' | _ => false) && elB U ti e
  | .ptr e => match P.underlying t with | some (.pointer e') => Nat.beq e e' | _ => false
  | .slf e => (match P.underlying t with | some (.slice e') => Nat.beq e e' | _ => false) && (match ti e with | some y => Nat.beq y.size 1 | none => false)
  | .other => match P.underlying t with | none => false | some (.struct _) => false | some (.array _ _) => false | some _ => true
def tiB (P : Program) (U : Univ) (ti : Nat → Option TI) (t : Nat) (x : TI) : Bool :=
  tyB P U ti t x.ty && match P.info? t with
  | some i => Nat.beq i.size x.size && Nat.beq i.bytes x.bytes && match i.zero with
    | some z => vsEq z.cells.toList (zvals U x.zero) && (!isAggT x || match z with | .agg _ => true | _ => false)
    | none => false
  | none => false

variable {P : Program} {U : Univ} {ti : Nat → Option TI}
theorem fsEq_spec : ∀ {F : List Field} {fs : List (Nat × Nat)}, fsEq F fs = true → F.map (fun f => (f.offset, f.type)) = fs ∧ ∀ f ∈ F, f.name ≠ "_"
  | [], [], _ => ⟨rfl, by simp⟩
  | [], _ :: _, h => by cases h
  | _ :: _, [], h => by cases h
  | f :: F, p :: ps, h => by
    simp only [fsEq, Bool.and_eq_true] at h
    obtain ⟨h1, h2⟩ := fsEq_spec h.2
    refine ⟨?_, fun g hg => ?_⟩
    · rw [List.map_cons, h1, Nat.eq_of_beq_eq_true h.1.1.1, Nat.eq_of_beq_eq_true h.1.1.2]
    · rcases List.mem_cons.1 hg with rfl | hg
      · simpa using h.1.2
      · exact h2 g hg
theorem elB_spec {e : Nat} (h : elB U ti e = true) : ∃ y, ti e = some y ∧ y.size = U.sz e ∧ 0 < y.size ∧ 0 < y.bytes ∧ zvals U y.zero = U.cells e (U.dflt e) := by
  unfold elB at h
  split at h
  · rename_i y hy
    simp only [Bool.and_eq_true] at h
    exact ⟨y, hy, Nat.eq_of_beq_eq_true h.1.1.1, Nat.le_of_ble_eq_true h.1.1.2, Nat.le_of_ble_eq_true h.1.2, vsEq_eq h.2⟩
  · cases h
theorem tyB_spec {t : Nat} {y : Ty} (h : tyB P U ti t y = true) : TyOk P U ti t y := by
  cases y <;> simp only [tyB] at h <;> simp only [TyOk]
  case int k =>
    split at h
    · rename_i h1; rw [h1, of_decide_eq_true h]
    · cases h
  case bool =>
    split at h
    · assumption
    · cases h
  case str =>
    split at h
    · assumption
    · cases h
  case sl e =>
    rw [Bool.and_eq_true] at h
    obtain ⟨h1, h2⟩ := h
    obtain ⟨y, e1, e2, e3, e4, _⟩ := elB_spec h2
    split at h1
    · rename_i h3; exact ⟨by rw [h3, Nat.eq_of_beq_eq_true h1], y, e1, e2, e3, e4⟩
    · cases h1
  case slf e =>
    rw [Bool.and_eq_true] at h
    obtain ⟨h1, h2⟩ := h
    split at h2
    · rename_i y hy
      split at h1
      · rename_i h3; exact ⟨by rw [h3, Nat.eq_of_beq_eq_true h1], y, hy, Nat.eq_of_beq_eq_true h2⟩
      · cases h1
    · cases h2
  case st fs =>
    split at h
    · rename_i F hF
      simp only [Bool.and_eq_true, Bool.not_eq_true'] at h
      obtain ⟨h1, h2⟩ := fsEq_spec h.1.1.1
      exact ⟨F, hF, h1, Option.isSome_iff_exists.1 h.1.1.2, h.1.2, h.2, h2⟩
    · cases h
  case arr n e =>
    rw [Bool.and_eq_true] at h
    obtain ⟨h1, h2⟩ := h
    obtain ⟨y, e1, e2, e3, e4, _⟩ := elB_spec h2
    split at h1
    · rename_i h3
      rw [Bool.and_eq_true] at h1
      exact ⟨by rw [h3, Nat.eq_of_beq_eq_true h1.1, Nat.eq_of_beq_eq_true h1.2], y, e1, e2, e3, e4⟩
    · cases h1
  case ptr e =>
    split at h
    · rename_i h1; rw [h1, Nat.eq_of_beq_eq_true h]
    · cases h
  case other =>
    split at h
    · cases h
    · cases h
    · cases h
    · rename_i d hd hs ha
      rw [ha]
      exact ⟨rfl, fun F hF => hd F (Option.some.inj hF), fun n e hn => hs n e (Option.some.inj hn)⟩
theorem tiB_spec {t : Nat} {x : TI} (h : tiB P U ti t x = true) : TIok P U ti t x := by
  unfold tiB at h
  rw [Bool.and_eq_true] at h
  obtain ⟨h0, h⟩ := h
  refine ⟨tyB_spec h0, ?_, ?_⟩
  · split at h
    · rename_i i hi
      simp only [Bool.and_eq_true] at h
      obtain ⟨⟨h1, h2⟩, h⟩ := h
      split at h
      · rename_i z hz
        simp only [Bool.and_eq_true, Bool.or_eq_true, Bool.not_eq_true'] at h
        refine ⟨i, z, hi, Nat.eq_of_beq_eq_true h1, Nat.eq_of_beq_eq_true h2, hz, vsEq_eq h.1, fun ha => ?_⟩
        rcases h.2 with h3 | h3
        · rw [ha] at h3; cases h3
        · split at h3
          · exact ⟨_, rfl⟩
          · cases h3
      · cases h
    · cases h
  · intro s n hs y hy
    have : elB U ti s = true := by
      rcases hs with hs | hs <;> rw [hs] at h0 <;> simp only [tyB, Bool.and_eq_true] at h0 <;> exact h0.2
    obtain ⟨y', e1, _, _, _, e5⟩ := elB_spec this
    rw [e1] at hy
    cases hy
    exact e5

theorem fits_of {T : Tree Ent} {R : TTree} (hT : T.All EntOk) (hR : R.all (tiB P ⟨T.look ent0⟩ R.look) = true) (hm : P.follows .mixedOrders = true) : Fits P ⟨T.look ent0⟩ R.look :=
  ⟨fun _ _ h => tiB_spec (TTree.look_all hR h), uOk hT, hm⟩
end Go.Proofs.Ytnjmkkgmlkhjeaa.AM
