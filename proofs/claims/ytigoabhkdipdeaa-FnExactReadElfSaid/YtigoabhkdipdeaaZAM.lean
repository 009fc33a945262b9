/- A part of the plain reading of Go's code: what a function's code comes to, by a plain function. No condition. -/
import Derived.Orders
import Derived.Below
import Derived.KernelRfl
namespace Go.Proofs.Ytigoabhkdipdeaa.AM

/-- A type of elements: the cells of one, and one out of its cells. -/
structure Ent where
  α : Type
  cells : α → List Value
  back : List Value → Option α
  dflt : α
  k : Option IntKind
structure Univ where
  ent : Nat → Ent
abbrev Univ.El (U : Univ) (t : Nat) : Type := (U.ent t).α
def Univ.cells (U : Univ) (t : Nat) (x : U.El t) : List Value := (U.ent t).cells x
def Univ.back (U : Univ) (t : Nat) (l : List Value) : Option (U.El t) := (U.ent t).back l
def Univ.dflt (U : Univ) (t : Nat) : U.El t := (U.ent t).dflt

inductive Ty where
  | int (k : IntKind) | bool | str | sl (e : Nat) | st (fs : List (Nat × Nat)) | arr (n e : Nat) | ptr (e : Nat) | other


inductive Z where
  | int (k : IntKind) | bool | str | sl | ptr | func | arr (e n : Nat)

structure TI where
  ty : Ty
  size : Nat
  bytes : Nat
  zero : List Z

inductive C (El : Nat → Type) : Type where
  | sc (v : Value)
  | row (t : Nat) (l : List (El t)) (tight loc : Bool)
  | sl (id : Nat)
  | sub (id t off len : Nat)
  | arr (t n : Nat) (l : List (El t))
  | ptr (id off : Nat)
  | pda (id t i off : Nat)
  | parr (id e n f i off : Nat)
  | prow (t : Nat) (l : List (El t)) (i off : Nat)
  | fn (f : Nat) (caps : List (Nat × Nat))

inductive W (El : Nat → Type) : Type where
  | c (x : C El)
  | agg (xs : List (C El))

inductive V (El : Nat → Type) : Type where
  | un | und
  | w (x : W El)
  | tup (xs : List (W El))

inductive Blk (El : Nat → Type) : Type where
  | dead
  | st (t : Nat) (cs : List (C El))
  | da (t : Nat) (l : List (El t))

structure St (El : Nat → Type) : Type where
  env : Nat → V El
  mem : List (Blk El)

variable {El : Nat → Type}

/-- The cells of an element. -/
def Univ.sz (U : Univ) (t : Nat) : Nat := (U.cells t (U.dflt t)).length

def C.width (U : Univ) : C U.El → Nat
  | .arr t n _ => n * U.sz t
  | _ => 1

abbrev int (k : IntKind) (n : Int) : W El := .c (.sc (.int k n))
abbrev bool (b : Bool) : W El := .c (.sc (.bool b))
abbrev str (s : ByteArray) : W El := .c (.sc (.string s))

def upd (e : Nat → V El) (d : Option Nat) (v : V El) : Nat → V El :=
  match d with
  | some d => fun t => cond (Nat.beq t d) v (e t)
  | none => e

def ofConst : Value → V El
  | .agg cs => if cs.toList.all Value.oneCell' then .w (.agg (cs.toList.map .sc)) else .un
  | .tuple _ => .un
  | v => .w (.c (.sc v))

def opv (e : Nat → V El) : Operand → V El
  | .tmp t => e t
  | .const v => ofConst v
  | .func f => .w (.c (.fn f []))
  | .global _ => .un

/-- The cells of a list of fields from an offset on, of a size. -/
def takeW (U : Univ) : List (C U.El) → Nat → Option (List (C U.El))
  | _, 0 => some []
  | [], _ + 1 => none
  | c :: cs, n + 1 => let w := c.width U
    if w ≤ n + 1 then if w = 0 then none else (takeW U cs (n + 1 - w)).map (c :: ·) else none
def dropW (U : Univ) : List (C U.El) → Nat → Option (List (C U.El))
  | cs, 0 => some cs
  | [], _ + 1 => none
  | c :: cs, n + 1 => let w := c.width U
    if w ≤ n + 1 then if w = 0 then none else dropW U cs (n + 1 - w) else none

def getAt (U : Univ) (cs : List (C U.El)) (off size : Nat) : Option (List (C U.El)) :=
  (dropW U cs off).bind fun r => takeW U r size
def putAt (U : Univ) (cs : List (C U.El)) (off size : Nat) (new : List (C U.El)) : Option (List (C U.El)) :=
  (takeW U cs off).bind fun a => (dropW U cs (off + size)).bind fun b => some (a ++ (new ++ b))

def widths (U : Univ) : List (C U.El) → Nat
  | [] => 0
  | c :: cs => c.width U + widths U cs

def isAggT (x : TI) : Bool := match x.ty with | .st _ | .arr _ _ => true | _ => false

def W.cells : W El → List (C El)
  | .c x => [x]
  | .agg xs => xs

/-- A value of a type out of its cells. -/
def mkW (x : TI) (cs : List (C El)) : Option (W El) :=
  if isAggT x then some (.agg cs) else match cs with
    | [.arr ..] => none
    | [c] => some (.c c)
    | _ => none

def scs : List (C El) → Option (List Value)
  | [] => some []
  | .sc v :: cs => (scs cs).map (v :: ·)
  | _ => none

def zeroC (U : Univ) : List Z → List (C U.El)
  | [] => []
  | .int k :: zs => .sc (.int k 0) :: zeroC U zs
  | .bool :: zs => .sc (.bool false) :: zeroC U zs
  | .str :: zs => .sc (.string ⟨#[]⟩) :: zeroC U zs
  | .sl :: zs => .sc (.slice none 0 0) :: zeroC U zs
  | .ptr :: zs => .sc (.pointer none) :: zeroC U zs
  | .func :: zs => .sc .nilFunc :: zeroC U zs
  | .arr e n :: zs => .arr e n (List.replicate n (U.dflt e)) :: zeroC U zs

def rd {α : Type} (d : α) (l : List α) (i : Nat) : α := l.getD i d

def bt (s : ByteArray) (i : Nat) : Int := ((s.data.getD i 0).toNat : Int)

def strOf (l : List Int) : ByteArray := ⟨(l.map fun n => UInt8.ofNat n.toNat).toArray⟩

structure Cfg where
  U : Univ
  ti : Nat → Option TI
  own : List Nat
  ntmps : Nat
  ios : List Nat
  pins : List Nat

def Cfg.tyOf (G : Cfg) (t : Nat) : Option Ty := (G.ti t).map TI.ty

def ibits (op : BinOp) (k : IntKind) (x y : Int) : Int :=
  match op with
  | .and => k.wrap (BitVec.ofInt k.bits x &&& BitVec.ofInt k.bits y).toNat
  | .or => k.wrap (BitVec.ofInt k.bits x ||| BitVec.ofInt k.bits y).toNat
  | .xor => k.wrap (BitVec.ofInt k.bits x ^^^ BitVec.ofInt k.bits y).toNat
  | _ => k.wrap (BitVec.ofInt k.bits x &&& ~~~ (BitVec.ofInt k.bits y)).toNat

variable {ρ : Type}

def aInt (op : BinOp) (k : IntKind) (x y : Int) (K : W El → Option ρ) : Option ρ :=
  match op with
  | .add => K (int k (k.wrap (x + y)))
  | .sub => K (int k (k.wrap (x - y)))
  | .mul => K (int k (k.wrap (x * y)))
  | .quo => cond (y == 0) none (K (int k (k.wrap (x.tdiv y))))
  | .rem => cond (y == 0) none (K (int k (x.tmod y)))
  | .shl => cond (decide (y < 0)) none (K (int k (k.wrap (x * 2 ^ min y.toNat k.bits))))
  | .shr => cond (decide (y < 0)) none (K (int k (x.fdiv (2 ^ min y.toNat k.bits))))
  | .and | .or | .xor | .andNot => K (int k (ibits op k x y))
  | .eql => K (bool (x == y))
  | .neq => K (bool (x != y))
  | .lss => K (bool (decide (x < y)))
  | .leq => K (bool (decide (x ≤ y)))
  | .gtr => K (bool (decide (x > y)))
  | .geq => K (bool (decide (x ≥ y)))

def aStr (op : BinOp) (x y : ByteArray) (K : W El → Option ρ) : Option ρ :=
  match op with
  | .add => cond (decide (((x.size + y.size : Nat) : Int) > IntKind.i64.max)) none (K (str (x ++ y)))
  | .eql => K (bool (x.toList == y.toList))
  | .neq => K (bool (!(x.toList == y.toList)))
  | _ => none

/-- Equality of scalars' cells; 0: whole numbers, 1: bools, 2: strings. -/
def eqSc : Nat → Value → Value → Option Bool
  | 0, .int k a, .int k' b => if k = k' then some (a == b) else none
  | 1, .bool a, .bool b => some (a == b)
  | 2, .string a, .string b => some (a.toList == b.toList)
  | _, _, _ => none
def intOf : List Value → Int
  | [.int _ n] => n
  | _ => 0
/-- Rows of whole numbers: whether they are alike. -/
def arrEq (U : Univ) (e : Nat) (a b : List (U.El e)) : Bool := (a.map fun y => intOf (U.cells e y)) == b.map fun y => intOf (U.cells e y)
def eqCs (U : Univ) : List Nat → List (C U.El) → List (C U.El) → Option Bool
  | [], [], [] => some true
  | k :: ks, .sc a :: as, .sc b :: bs => match eqSc k a b, eqCs U ks as bs with
    | some x, some y => some (x && y)
    | _, _ => none
  | ks, .arr e n a :: as, .arr e' n' b :: bs => if h : e' = e then if n' = n ∧ (U.ent e).k.isSome = true ∧ ks.take n = List.replicate n 0 then match eqCs U (ks.drop n) as bs with
      | some y => some (arrEq U e a (h ▸ b) && y)
      | none => none
    else none else none
  | _, _, _ => none

/-- A type whose equality is that of its cells: their kinds. -/
def eqFs (p : Nat → Option (List Nat)) : List (Nat × Nat) → Nat → Nat → Option (List Nat)
  | [], off, size => if off = size then some [] else none
  | (o, ft) :: fs, off, size => if o = off then (p ft).bind fun ks => (eqFs p fs (off + ks.length) size).map (ks ++ ·) else none
def eqTy (ti : Nat → Option TI) : Nat → Nat → Option (List Nat)
  | 0, _ => none
  | d + 1, t => match ti t with
    | some x => match x.ty with
      | .int _ => if x.size = 1 then some [0] else none
      | .bool => if x.size = 1 then some [1] else none
      | .str => if x.size = 1 then some [2] else none
      | .st fs => eqFs (eqTy ti d) fs 0 x.size
      | .arr n e => match eqTy ti d e with
        | some [0] => if x.size = n then some (List.replicate n 0) else none
        | _ => none
      | _ => none
    | none => none

def aBin (U : Univ) (ti : Nat → Option TI) (op : BinOp) (t : Nat) (x y : V U.El) (K : W U.El → Option ρ) : Option ρ :=
  match x, y with
  | .w (.c (.sc (.int k a))), .w (.c (.sc (.int k' b))) =>
    match op with
    | .shl => aInt .shl k a b K
    | .shr => aInt .shr k a b K
    | op => if k = k' then aInt op k a b K else none
  | .w (.c (.sc (.string a))), .w (.c (.sc (.string b))) => aStr op a b K
  | .w (.c (.sc (.bool a))), .w (.c (.sc (.bool b))) =>
    match (ti t).map TI.ty, op with
    | some .bool, .eql => K (bool (a == b))
    | some .bool, .neq => K (bool (!(a == b)))
    | _, _ => none
  | .w (.agg as), .w (.agg bs) =>
    match (ti t).map TI.ty, (eqTy ti 10 t).bind fun ks => eqCs U ks as bs, op with
    | some (.st _), some b, .eql => K (bool b)
    | some (.st _), some b, .neq => K (bool (!b))
    | _, _, _ => none
  | _, _ => none

def aUn (op : UnOp) (x : V El) (K : W El → Option ρ) : Option ρ :=
  match op, x with
  | .not, .w (.c (.sc (.bool b))) => K (bool (!b))
  | .neg, .w (.c (.sc (.int k n))) => K (int k (k.wrap (0 - n)))
  | .xor, .w (.c (.sc (.int k n))) => K (int k (ibits .xor k (if k.signed then -1 else k.max) n))
  | _, _ => none

/-- The row that a slice's value reads. -/
def rowOf (m : List (Blk El)) (t : Nat) : C El → Option (List (El t))
  | .row t' l _ _ => if h : t' = t then some (h ▸ l) else none
  | .sl id => match m[id]? with
    | some (.da t' l) => if h : t' = t then some (h ▸ l) else none
    | _ => none
  | .sub id t' off len => match m[id]? with
    | some (.da t'' l) => if h : t'' = t then if t' = t then some (((h ▸ l).drop off).take len) else none else none
    | _ => none
  | .sc (.slice none 0 0) => some []
  | _ => none

/-! ### typed places -/

inductive S1 where
  | int (k : IntKind) | bool | str | row (t : Nat) | arr (t n : Nat) | sl (t : Nat)
  | rol (t : Nat) | ip (t : Nat) | gv (t : Nat)

def S1.T (El : Nat → Type) : S1 → Type
  | .int _ => Int
  | .bool => Bool
  | .str => ByteArray
  | .row t | .arr t _ | .sl t | .rol t | .ip t | .gv t => List (El t)

def Ts (El : Nat → Type) : List S1 → Type
  | [] => Unit
  | s :: ss => s.T El × Ts El ss

inductive AS where
  | c (s : S1)
  | agg (ss : List S1)
  | ptr (t : Nat)
  | skip
  | io (t : Nat) (ss : List S1)
  | bk (t : Nat)
  | np (t : Nat) (ss : List S1)
  | fnp (f : Nat) (caps : List (Nat × List S1))

def CapT (El : Nat → Type) : List (Nat × List S1) → Type
  | [] => Unit
  | p :: ps => Ts El p.2 × CapT El ps

def AS.T (El : Nat → Type) : AS → Type
  | .c s => s.T El
  | .agg ss => Ts El ss
  | .ptr t => El t
  | .skip => Unit
  | .io _ ss => Ts El ss
  | .bk t => List (El t)
  | .np _ ss => Ts El ss
  | .fnp _ caps => CapT El caps

def ASs (El : Nat → Type) : List AS → Type
  | [] => Unit
  | s :: ss => s.T El × ASs El ss

/-- Results: one is itself, more are a product that ends with the last. -/
def Os (El : Nat → Type) : List AS → Type
  | [] => Unit
  | [s] => s.T El
  | s :: s' :: ss => s.T El × Os El (s' :: ss)

def C.int? (k : IntKind) : C El → Option Int
  | .sc (.int k' n) => if k = k' then some n else none
  | _ => none
def C.bool? : C El → Option Bool
  | .sc (.bool b) => some b
  | _ => none
def C.str? : C El → Option ByteArray
  | .sc (.string b) => some b
  | _ => none
def C.arr? (t n : Nat) : C El → Option (List (El t))
  | .arr t' n' l => if h : t' = t then if n' = n then some (h ▸ l) else none else none
  | _ => none

/-- A row that is a view; a row that is owned. -/
def rolOf (t : Nat) : C El → Option (List (El t))
  | .row t' l _ _ => if h : t' = t then some (h ▸ l) else none
  | .sc (.slice none 0 0) => some []
  | _ => none
def ownRow (m : List (Blk El)) (t : Nat) : C El → Option (List (El t))
  | .sl id => match m[id]? with
    | some (.da t' l) => if h : t' = t then some (h ▸ l) else none
    | _ => none
  | .sc (.slice none 0 0) => some []
  | _ => none

def S1.dec (m : List (Blk El)) : (s : S1) → C El → Option (s.T El)
  | .int k => C.int? k
  | .bool => C.bool?
  | .str => C.str?
  | .row t => rowOf m t
  | .sl t => rowOf m t
  | .arr t n => C.arr? t n
  | .rol t => rolOf t
  | .ip t | .gv t => ownRow m t

def decs (m : List (Blk El)) : (ss : List S1) → List (C El) → Option (Ts El ss)
  | [], [] => some ()
  | s :: ss, c :: cs => (s.dec m c).bind fun x => (decs m ss cs).bind fun y => some (x, y)
  | _, _ => none

/-- What a pointer's place holds, as one element. -/
def ptrElem (U : Univ) (m : List (Blk U.El)) (t : Nat) : C U.El → Option (U.El t)
  | .ptr id off => match m[id]? with
    | some (.st _ cs) => (getAt U cs off (U.sz t)).bind fun cs => (scs cs).bind (U.back t)
    | _ => none
  | .pda id e i off => match m[id]? with
    | some (.da e' l) => if e = e' then if off + U.sz t ≤ U.sz e' then U.back t (((U.cells e' (rd (U.dflt e') l i)).drop off).take (U.sz t)) else none else none
    | _ => none
  | .prow e l i off => if off + U.sz t ≤ U.sz e then U.back t (((U.cells e (rd (U.dflt e) l i)).drop off).take (U.sz t)) else none
  | _ => none

/-- What a block of a struct holds. -/
def ioDec (m : List (Blk El)) (t : Nat) (ss : List S1) (id : Nat) : Option (Ts El ss) :=
  match m[id]? with
  | some (.st t' cs) => if t' = t then decs m ss cs else none
  | _ => none
def capsDec (m : List (Blk El)) : (caps : List (Nat × List S1)) → List (Nat × Nat) → Option (CapT El caps)
  | [], [] => some ()
  | p :: ps, c :: cs => if c.2 = 0 then (ioDec m p.1 p.2 c.1).bind fun x => (capsDec m ps cs).bind fun y => some (x, y) else none
  | _, _ => none

def AS.dec (U : Univ) (m : List (Blk U.El)) : (s : AS) → V U.El → Option (s.T U.El)
  | .c s, .w (.c x) => s.dec m x
  | .agg ss, .w (.agg xs) => decs m ss xs
  | .ptr t, .w (.c x) => ptrElem U m t x
  | .skip, _ => some ()
  | .io t ss, .w (.c (.ptr id off)) => if off = 0 then ioDec m t ss id else none
  | .fnp f caps, .w (.c (.fn f' cs)) => if f' = f then capsDec m caps cs else none
  | _, _ => none

def ASdec (U : Univ) (m : List (Blk U.El)) : (ss : List AS) → List (V U.El) → Option (ASs U.El ss)
  | [], [] => some ()
  | s :: ss, v :: vs => (s.dec U m v).bind fun x => (ASdec U m ss vs).bind fun y => some (x, y)
  | _, _ => none

/-- What a place holds, by value: rows are views. -/
def S1.enc : (s : S1) → s.T El → (loc : Bool) → C El
  | .int k, n, _ => .sc (.int k n)
  | .bool, b, _ => .sc (.bool b)
  | .str, s, _ => .sc (.string s)
  | .row t, l, loc | .sl t, l, loc | .rol t, l, loc | .ip t, l, loc | .gv t, l, loc => .row t l false loc
  | .arr t n, l, _ => .arr t n l

def encs : (ss : List S1) → Ts El ss → Bool → List (C El)
  | [], _, _ => []
  | s :: ss, (x, y), loc => s.enc x loc :: encs ss y loc

/-- A function's arguments at its start: what it may write are blocks of its own. -/
def encI1 : (s : S1) → s.T El → List (Blk El) → C El × List (Blk El)
  | .ip t, l, m | .gv t, l, m => (.sl m.length, m ++ [.da t l])
  | .rol t, l, m => (.row t l false true, m)
  | s, x, m => (s.enc x false, m)
def encI2 : (ss : List S1) → Ts El ss → List (Blk El) → List (C El) × List (Blk El)
  | [], _, m => ([], m)
  | s :: ss, (x, y), m => ((encI1 s x m).1 :: (encI2 ss y (encI1 s x m).2).1, (encI2 ss y (encI1 s x m).2).2)
def encIo (t : Nat) (ss : List S1) (x : Ts El ss) (m : List (Blk El)) : Nat × List (Blk El) :=
  ((encI2 ss x m).2.length, (encI2 ss x m).2 ++ [.st t (encI2 ss x m).1])
def encICaps : (caps : List (Nat × List S1)) → CapT El caps → List (Blk El) → List (Nat × Nat) × List (Blk El)
  | [], _, m => ([], m)
  | p :: ps, (x, y), m => (((encIo p.1 p.2 x m).1, 0) :: (encICaps ps y (encIo p.1 p.2 x m).2).1, (encICaps ps y (encIo p.1 p.2 x m).2).2)
def encI : (s : AS) → s.T El → List (Blk El) → V El × List (Blk El)
  | .c s, x, m => (.w (.c (encI1 s x m).1), (encI1 s x m).2)
  | .agg ss, x, m => (.w (.agg (encI2 ss x m).1), (encI2 ss x m).2)
  | .ptr t, x, m => (.w (.c (.prow t [x] 0 0)), m)
  | .io t ss, x, m => (.w (.c (.ptr (encIo t ss x m).1 0)), (encIo t ss x m).2)
  | .fnp f caps, x, m => (.w (.c (.fn f (encICaps caps x m).1)), (encICaps caps x m).2)
  | _, _, m => (.un, m)
def encIs : (ss : List AS) → ASs El ss → List (Blk El) → List (V El) × List (Blk El)
  | [], _, m => ([], m)
  | s :: ss, (x, y), m => ((encI s x m).1 :: (encIs ss y (encI s x m).2).1, (encIs ss y (encI s x m).2).2)

/-- Results at a function's end: rows must be the call's own. -/
def C.loc : C El → Bool
  | .row _ _ _ loc => loc
  | _ => true
def C.own : C El → Bool
  | .sl _ | .sc _ => true
  | _ => false
def S1.out (m : List (Blk El)) : (s : S1) → C El → Option (s.T El)
  | .int k => C.int? k
  | .bool => C.bool?
  | .str => C.str?
  | .row t => fun c => if c.loc then rowOf m t c else none
  | .sl t => fun c => if c.own then rowOf m t c else none
  | .arr t n => C.arr? t n
  | .rol t => fun c => if c.loc then rowOf m t c else none
  | .ip t => fun c => if c.own then rowOf m t c else none
  | .gv _ => fun _ => none

def outs1 (m : List (Blk El)) : (ss : List S1) → List (C El) → Option (Ts El ss)
  | [], [] => some ()
  | s :: ss, c :: cs => (s.out m c).bind fun x => (outs1 m ss cs).bind fun y => some (x, y)
  | _, _ => none

def npOut (m : List (Blk El)) (t : Nat) (ss : List S1) : W El → Option (Ts El ss)
  | .c (.ptr id off) => if off = 0 then match m[id]? with
    | some (.st t' cs) => if t' = t then outs1 m ss cs else none
    | _ => none else none
  | _ => none
def AS.out (m : List (Blk El)) : (s : AS) → W El → Option (s.T El)
  | .c s, .c x => s.out m x
  | .agg ss, .agg xs => outs1 m ss xs
  | .io _ ss, .agg xs => outs1 m ss xs
  | .bk t, .c x => if x.own then rowOf m t x else none
  | .np t ss, y => npOut m t ss y
  | _, _ => none

def Oout (m : List (Blk El)) : (ss : List AS) → List (W El) → Option (Os El ss)
  | [], ws => match ws with
    | [] => some ()
    | _ :: _ => none
  | [s], ws => match ws with
    | [v] => s.out m v
    | _ => none
  | s :: s' :: ss, ws => match ws with
    | v :: vs => (s.out m v).bind fun x => (Oout m (s' :: ss) vs).bind fun y => some (x, y)
    | [] => none

/-- The rows that are handed out to own; those of which a view is handed out. -/
def C.src : C El → Option Nat
  | .sl id => some id
  | _ => none
def S1.srcs : S1 → C El → List (Option Nat)
  | .sl _, c | .ip _, c => [c.src]
  | _, _ => []
def srcs1 : List S1 → List (C El) → List (Option Nat)
  | s :: ss, c :: cs => s.srcs c ++ srcs1 ss cs
  | _, _ => []
def AS.srcs (m : List (Blk El)) : AS → W El → List (Option Nat)
  | .c s, .c x => s.srcs x
  | .agg ss, .agg xs => srcs1 ss xs
  | .io _ ss, .agg xs => srcs1 ss xs
  | .np _ ss, .c (.ptr id _) => match m[id]? with
    | some (.st _ cs) => srcs1 ss cs ++ [some id]
    | _ => []
  | _, _ => []
def srcsOf (m : List (Blk El)) : List AS → List (W El) → List (Option Nat)
  | s :: ss, w :: ws => s.srcs m w ++ srcsOf m ss ws
  | _, _ => []
def C.use : C El → List Nat
  | .sl id => [id]
  | .sub id .. => [id]
  | _ => []
def S1.uses : S1 → C El → List Nat
  | .row _, c | .rol _, c => c.use
  | _, _ => []
def uses1 : List S1 → List (C El) → List Nat
  | s :: ss, c :: cs => s.uses c ++ uses1 ss cs
  | _, _ => []
def AS.uses (m : List (Blk El)) : AS → W El → List Nat
  | .c s, .c x => s.uses x
  | .agg ss, .agg xs => uses1 ss xs
  | .io _ ss, .agg xs => uses1 ss xs
  | .np _ ss, .c (.ptr id _) => match m[id]? with
    | some (.st _ cs) => uses1 ss cs
    | _ => []
  | _, _ => []
def usesOf (m : List (Blk El)) : List AS → List (W El) → List Nat
  | s :: ss, w :: ws => s.uses m w ++ usesOf m ss ws
  | _, _ => []
def handsOk (ss : List (Option Nat)) (us : List Nat) : Bool := decide (ss.filterMap id).Nodup && us.all fun i => !(ss.contains (some i))

/-- A call's results at the caller; rows that it is to own become blocks. lc: whether the views among them may be handed on. -/
def enc1 (own lc : Bool) : (s : S1) → s.T El → List (Blk El) → C El × List (Blk El)
  | .sl t, l, m | .ip t, l, m => if own then (.sl m.length, m ++ [.da t l]) else (.row t l false true, m)
  | s, x, m => (s.enc x lc, m)
def enc2 (own lc : Bool) : (ss : List S1) → Ts El ss → List (Blk El) → List (C El) × List (Blk El)
  | [], _, m => ([], m)
  | s :: ss, (x, y), m => ((enc1 own lc s x m).1 :: (enc2 own lc ss y (enc1 own lc s x m).2).1, (enc2 own lc ss y (enc1 own lc s x m).2).2)
def encO (own lc : Bool) : (s : AS) → s.T El → List (Blk El) → W El × List (Blk El)
  | .c s, x, m => (.c (enc1 own lc s x m).1, (enc1 own lc s x m).2)
  | .agg ss, x, m => (.agg (enc2 own lc ss x m).1, (enc2 own lc ss x m).2)
  | .io _ ss, x, m => (.agg (enc2 own lc ss x m).1, (enc2 own lc ss x m).2)
  | .bk t, l, m => (.agg [.arr t l.length l], m)
  | .np t ss, x, m => (.c (.ptr (enc2 own lc ss x m).2.length 0), (enc2 own lc ss x m).2 ++ [.st t (enc2 own lc ss x m).1])
  | _, _, m => (.agg [], m)
def encOs (own lc : Bool) : (ss : List AS) → Os El ss → List (Blk El) → List (W El) × List (Blk El)
  | [], _, m => ([], m)
  | [s], x, m => ([(encO own lc s x m).1], (encO own lc s x m).2)
  | s :: s' :: ss, (x, y), m => ((encO own lc s x m).1 :: (encOs own lc (s' :: ss) y (encO own lc s x m).2).1, (encOs own lc (s' :: ss) y (encO own lc s x m).2).2)

def resV : List (W El) → V El
  | [x] => .w x
  | xs => .tup xs

/-! ### what a call may write: it is handed over, and comes back -/
def S1.mv : S1 → C El → List (Option Nat)
  | .ip _, c | .gv _, c => [c.src]
  | _, _ => []
def mv1 : List S1 → List (C El) → List (Option Nat)
  | s :: ss, c :: cs => s.mv c ++ mv1 ss cs
  | _, _ => []
def mvIo (m : List (Blk El)) (ss : List S1) (id : Nat) : List (Option Nat) := match m[id]? with
  | some (.st _ cs) => mv1 ss cs ++ [some id]
  | _ => []
def mvCaps (m : List (Blk El)) : List (Nat × List S1) → List (Nat × Nat) → List (Option Nat)
  | p :: ps, c :: cs => mvIo m p.2 c.1 ++ mvCaps m ps cs
  | _, _ => []
def AS.mv (m : List (Blk El)) : AS → V El → List (Option Nat)
  | .c s, .w (.c x) => s.mv x
  | .agg ss, .w (.agg xs) => mv1 ss xs
  | .io _ ss, .w (.c (.ptr id _)) => mvIo m ss id
  | .fnp _ caps, .w (.c (.fn _ cs)) => mvCaps m caps cs
  | _, _ => []
def mvs (m : List (Blk El)) : List AS → List (V El) → List (Option Nat)
  | s :: ss, v :: vs => s.mv m v ++ mvs m ss vs
  | _, _ => []
/-- What a call reads alone. -/
def S1.us : S1 → C El → List Nat
  | .row _, c | .sl _, c => c.use
  | _, _ => []
def us1 : List S1 → List (C El) → List Nat
  | s :: ss, c :: cs => s.us c ++ us1 ss cs
  | _, _ => []
def usIo (m : List (Blk El)) (ss : List S1) (id : Nat) : List Nat := match m[id]? with
  | some (.st _ cs) => us1 ss cs
  | _ => []
def usCaps (m : List (Blk El)) : List (Nat × List S1) → List (Nat × Nat) → List Nat
  | p :: ps, c :: cs => usIo m p.2 c.1 ++ usCaps m ps cs
  | _, _ => []
def C.puse : C El → List Nat
  | .ptr id _ => [id]
  | .pda id .. => [id]
  | _ => []
def AS.us (m : List (Blk El)) : AS → V El → List Nat
  | .c s, .w (.c x) => s.us x
  | .agg ss, .w (.agg xs) => us1 ss xs
  | .ptr _, .w (.c x) => x.puse
  | .io _ ss, .w (.c (.ptr id _)) => usIo m ss id
  | .fnp _ caps, .w (.c (.fn _ cs)) => usCaps m caps cs
  | _, _ => []
def usOf (m : List (Blk El)) : List AS → List (V El) → List Nat
  | s :: ss, v :: vs => s.us m v ++ usOf m ss vs
  | _, _ => []
/-- Whether the views that are handed over may be handed on. -/
def S1.lc : S1 → C El → Bool
  | .rol _, .row _ _ _ loc => loc
  | _, _ => true
def lc1 : List S1 → List (C El) → Bool
  | s :: ss, c :: cs => s.lc c && lc1 ss cs
  | _, _ => true
def lcIo (m : List (Blk El)) (ss : List S1) (id : Nat) : Bool := match m[id]? with
  | some (.st _ cs) => lc1 ss cs
  | _ => true
def lcCaps (m : List (Blk El)) : List (Nat × List S1) → List (Nat × Nat) → Bool
  | p :: ps, c :: cs => lcIo m p.2 c.1 && lcCaps m ps cs
  | _, _ => true
def AS.lc (m : List (Blk El)) : AS → V El → Bool
  | .c s, .w (.c x) => s.lc x
  | .agg ss, .w (.agg xs) => lc1 ss xs
  | .io _ ss, .w (.c (.ptr id _)) => lcIo m ss id
  | .fnp _ caps, .w (.c (.fn _ cs)) => lcCaps m caps cs
  | _, _ => true
def lcOf (m : List (Blk El)) : List AS → List (V El) → Bool
  | s :: ss, v :: vs => s.lc m v && lcOf m ss vs
  | _, _ => true
/-- What comes back, and as which blocks. -/
def S1.bkS : S1 → List AS
  | .ip t => [.bk t]
  | _ => []
def bkS1 : List S1 → List AS
  | [] => []
  | s :: ss => s.bkS ++ bkS1 ss
def bkCaps : List (Nat × List S1) → List AS
  | [] => []
  | p :: ps => .io p.1 p.2 :: bkCaps ps
def AS.bkS : AS → List AS
  | .c s => s.bkS
  | .agg ss => bkS1 ss
  | .io t ss => [.io t ss]
  | .fnp _ caps => bkCaps caps
  | _ => []
def bkSs : List AS → List AS
  | [] => []
  | s :: ss => s.bkS ++ bkSs ss
def S1.bki : S1 → C El → List (Option Nat)
  | .ip _, c => [c.src]
  | _, _ => []
def bki1 : List S1 → List (C El) → List (Option Nat)
  | s :: ss, c :: cs => s.bki c ++ bki1 ss cs
  | _, _ => []
def AS.bkI : AS → V El → List (Option Nat)
  | .c s, .w (.c x) => s.bki x
  | .agg ss, .w (.agg xs) => bki1 ss xs
  | .io _ _, .w (.c (.ptr id _)) => [some id]
  | .fnp _ _, .w (.c (.fn _ cs)) => cs.map fun c => some c.1
  | _, _ => []
def bkIs : List AS → List (V El) → List (Option Nat)
  | s :: ss, v :: vs => s.bkI v ++ bkIs ss vs
  | _, _ => []
def bkW (m : List (Blk El)) : AS → Option Nat → Option (W El)
  | .io t _, some k => match m[k]? with
    | some (.st t' cs) => if t' = t then some (.agg cs) else none
    | _ => none
  | .bk _, some k => some (.c (.sl k))
  | .bk _, none => some (.c (.sc (.slice none 0 0)))
  | _, _ => none
def bkWs (m : List (Blk El)) : List AS → List (Option Nat) → Option (List (W El))
  | [], [] => some []
  | s :: ss, i :: is => (bkW m s i).bind fun w => (bkWs m ss is).bind fun ws => some (w :: ws)
  | _, _ => none
def bkBlk : AS → W El → Blk El
  | .io t _, .agg cs => .st t cs
  | .bk _, .agg [.arr t _ l] => .da t l
  | _, _ => .dead
def bkBlks : List AS → List (W El) → List (Blk El)
  | s :: ss, w :: ws => bkBlk s w :: bkBlks ss ws
  | _, _ => []
def kill (m : List (Blk El)) : List (Option Nat) → List (Blk El)
  | [] => m
  | some i :: is => kill (m.set i .dead) is
  | none :: is => kill m is
def putBk (m : List (Blk El)) : List (Option Nat) → List (Blk El) → List (Blk El)
  | some i :: is, b :: bs => putBk (m.set i b) is bs
  | none :: is, _ :: bs => putBk m is bs
  | _, _ => m

/-- What is known of a function: its arguments, its results, the plain function; behind the results stands what comes back. -/
structure Con (El : Nat → Type) where
  ins : List AS
  outs : List AS
  plain : Nat → ASs El ins → Option (Os El (outs ++ bkSs ins))

def isNp : AS → Bool
  | .np .. => true
  | _ => false
def S1.isGv : S1 → Bool
  | .gv _ => true
  | _ => false
def AS.isGv : AS → Bool
  | .c s => s.isGv
  | .agg ss => ss.any S1.isGv
  | _ => false
def Con.quiet {El : Nat → Type} (c : Con El) : Bool := (bkSs c.ins).isEmpty && !(c.outs.any isNp) && !(c.ins.any AS.isGv)
/-- A function that is handed a function has a contract for each of these. -/
def fnIn : List (V El) → Nat
  | [] => 0
  | .w (.c (.fn g _)) :: _ => g + 1
  | _ :: vs => fnIn vs
def keyOf (f : Nat) (vs : List (V El)) : Nat := f + 65536 * fnIn vs

/-! ### operations -/

def W.v : W El → V El := .w

section
variable (G : Cfg) (con : Nat → Option (Con G.U.El)) (n : Nat)

/-- An element's cells of a size from an offset on. -/
def elemAt (t : Nat) (x : G.U.El t) (off size : Nat) : Option (List (C G.U.El)) :=
  if off + size ≤ G.U.sz t then some ((((G.U.cells t x).drop off).take size).map .sc) else none

def aIndexAddr (t : Nat) (x i : V G.U.El) (m : List (Blk G.U.El)) (K : W G.U.El → Option ρ) : Option ρ :=
  match i with
  | .w (.c (.sc (.int _ i))) =>
    match G.tyOf t, x with
    | some (.sl e), .w (.c (.row t' l _ _)) => if e = t' then cond (decide (0 ≤ i)) (cond (decide (i < (l.length : Int))) (K (.c (.prow t' l i.toNat 0))) none) none else none
    | some (.sl e), .w (.c (.sl id)) => match m[id]? with
      | some (.da t' l) => if e = t' then cond (decide (0 ≤ i)) (cond (decide (i < (l.length : Int))) (K (.c (.pda id t' i.toNat 0))) none) none else none
      | _ => none
    | some (.sl e), .w (.c (.sub id t' off len)) => if e = t' then cond (decide (0 ≤ i)) (cond (decide (i < (len : Int))) (K (.c (.pda id t' (off + i.toNat) 0))) none) none else none
    | some (.arr k e), .w (.c (.ptr id off)) => cond (decide (0 ≤ i)) (cond (decide (i < (k : Int))) (K (.c (.parr id e k off i.toNat 0))) none) none
    | _, _ => none
  | _ => none

def aIndex (t : Nat) (x i : V G.U.El) (K : W G.U.El → Option ρ) : Option ρ :=
  match G.tyOf t, x, i with
  | some .str, .w (.c (.sc (.string s))), .w (.c (.sc (.int _ i))) =>
    cond (decide (0 ≤ i)) (cond (decide (i < (s.size : Int))) (K (int .u8 (bt s i.toNat))) none) none
  | some (.arr k' e'), .w (.agg [.arr e k l]), .w (.c (.sc (.int _ i))) =>
    match G.ti e with
    | some x => cond (decide (0 ≤ i)) (cond (decide (i < (k' : Int))) (if k' = k then if e' = e then
        ((elemAt G e (rd (G.U.dflt e) l i.toNat) 0 x.size).bind (mkW x)).elim none K else none else none) none) none
    | none => none
  | _, _, _ => none

def aLoad (t : Nat) (a : V G.U.El) (m : List (Blk G.U.El)) (K : W G.U.El → Option ρ) : Option ρ :=
  match G.ti t with
  | none => none
  | some x =>
    match a with
    | .w (.c (.ptr id off)) => match m[id]? with
      | some (.st _ cs) => ((getAt G.U cs off x.size).bind (mkW x)).elim none K
      | _ => none
    | .w (.c (.pda id t' i off)) => match m[id]? with
      | some (.da e l) => if t' = e then ((elemAt G e (rd (G.U.dflt e) l i) off x.size).bind (mkW x)).elim none K else none
      | _ => none
    | .w (.c (.prow e l i off)) => ((elemAt G e (rd (G.U.dflt e) l i) off x.size).bind (mkW x)).elim none K
    | .w (.c (.parr id e' n f i off)) => match m[id]? with
      | some (.st _ cs) => match dropW G.U cs f with
        | some (.arr e n' l :: _) => if e' = e then if n' = n then ((elemAt G e (rd (G.U.dflt e) l i) off x.size).bind (mkW x)).elim none K else none else none
        | _ => none
      | _ => none
    | _ => none

def setElem (t : Nat) (l : List (G.U.El t)) (i off : Nat) (vs : List Value) : Option (List (G.U.El t)) :=
  if off + vs.length ≤ G.U.sz t then
    (G.U.back t ((G.U.cells t (rd (G.U.dflt t) l i)).take off ++ (vs ++ (G.U.cells t (rd (G.U.dflt t) l i)).drop (off + vs.length)))).map fun y => l.set i y
  else none

def setBlk (m : List (Blk G.U.El)) (id : Nat) (b : Blk G.U.El) : List (Blk G.U.El) := m.set id b

def aStore (t : Nat) (a v : V G.U.El) (m : List (Blk G.U.El)) : Option (List (Blk G.U.El)) :=
  match G.ti t, v with
  | some x, .w v =>
    match a with
    | .w (.c (.ptr id off)) => match m[id]? with
      | some (.st t' cs) => if widths G.U v.cells = x.size then (putAt G.U cs off x.size v.cells).map fun cs' => m.set id (.st t' cs') else none
      | _ => none
    | .w (.c (.pda id t' i off)) => match m[id]? with
      | some (.da e l) => if t' = e then (scs v.cells).bind fun vs => if vs.length = x.size then (setElem G e l i off vs).map fun l' => m.set id (.da e l') else none else none
      | _ => none
    | .w (.c (.parr id e' n f i off)) => match m[id]? with
      | some (.st t' cs) => match takeW G.U cs f, dropW G.U cs f with
        | some a, some (.arr e k l :: b) => if e' = e then if k = n then (scs v.cells).bind fun vs => if vs.length = x.size then (setElem G e l i off vs).map fun l' => m.set id (.st t' (a ++ .arr e k l' :: b)) else none else none else none
        | _, _ => none
      | _ => none
    | _ => none
  | _, _ => none

def fieldOf (t f : Nat) : Option (Nat × Nat) :=
  match G.tyOf t with
  | some (.st fs) => fs[f]?
  | _ => none

def aFieldAddr (t f : Nat) (x : V G.U.El) (K : W G.U.El → Option ρ) : Option ρ :=
  match fieldOf G t f with
  | none => none
  | some (o, ft) => if ((G.ti ft).map TI.size).getD 0 = 0 then none else match x with
    | .w (.c (.ptr id off)) => K (.c (.ptr id (off + o)))
    | .w (.c (.pda id t i off)) => K (.c (.pda id t i (off + o)))
    | .w (.c (.parr id e n g i off)) => K (.c (.parr id e n g i (off + o)))
    | .w (.c (.prow e l i off)) => K (.c (.prow e l i (off + o)))
    | _ => none

def aField (t f : Nat) (x : V G.U.El) (K : W G.U.El → Option ρ) : Option ρ :=
  match fieldOf G t f, x with
  | some (o, ft), .w (.agg cs) => match G.ti ft with
    | some y => ((getAt G.U cs o y.size).bind (mkW y)).elim none K
    | none => none
  | _, _ => none

def aFill (fs : List (Nat × Nat)) : List (Nat × V G.U.El) → List (C G.U.El) → Option (List (C G.U.El))
  | [], cs => some cs
  | (i, .w v) :: ps, cs => match fs[i]? with
    | some (o, ft) => match G.ti ft with
      | some y => if widths G.U v.cells = y.size then (putAt G.U cs o y.size v.cells).bind (aFill fs ps) else none
      | none => none
    | none => none
  | _ :: _, _ => none

def aBuild (t : Nat) (parts : List (Nat × V G.U.El)) (K : W G.U.El → Option ρ) : Option ρ :=
  match G.ti t with
  | some x => match x.ty with
    | .st fs => (aFill G fs parts (zeroC G.U x.zero)).elim none fun cs => K (.agg cs)
    | _ => none
  | none => none

/-- The elements of a row that is made of parts. -/
def litFill (e : Nat) : List (Nat × V G.U.El) → List (G.U.El e) → Option (List (G.U.El e))
  | [], l => some l
  | (i, .w v) :: ps, l => if i < l.length then (scs v.cells).bind fun vs => if vs.length = G.U.sz e then (G.U.back e vs).bind fun y => litFill e ps (l.set i y) else none else none
  | _ :: _, _ => none

def aBuildSlice (own : Bool) (t len : Nat) (parts : List (Nat × V G.U.El)) (m : List (Blk G.U.El)) (K : W G.U.El → List (Blk G.U.El) → Option ρ) : Option ρ :=
  match G.tyOf t with
  | some (.sl e) => match if len * G.U.sz e ≤ 16777216 then litFill G e parts (List.replicate len (G.U.dflt e)) else none with
    | some l => if own then K (.c (.sl m.length)) (m ++ [.da e l]) else K (.c (.row e l true true)) m
    | none => none
  | _ => none

def aMakeSlice (own : Bool) (t : Nat) (len cap : V G.U.El) (m : List (Blk G.U.El)) (K : W G.U.El → List (Blk G.U.El) → Option ρ) : Option ρ :=
  match G.tyOf t, len, cap with
  | some (.sl e), .w (.c (.sc (.int .i64 a))), .w (.c (.sc (.int .i64 b))) => match G.ti e with
    | some x => cond (decide (0 ≤ a)) (cond (decide (a ≤ b)) (cond (decide (x.bytes * b ≤ 140737488355328))
        (if own then K (.c (.sl m.length)) (m ++ [.da e (List.replicate a.toNat (G.U.dflt e))]) else K (.c (.row e (List.replicate a.toNat (G.U.dflt e)) false true)) m) none) none) none
    | none => none
  | _, _, _ => none

def natOf : Option (V El) → Nat → (Nat → Option ρ) → Option ρ
  | none, d, K => K d
  | some (.w (.c (.sc (.int _ i)))), _, K => cond (decide (0 ≤ i)) (K i.toNat) none
  | _, _, _ => none

def aSlice (t : Nat) (x : V G.U.El) (lo hi mx : Option (V G.U.El)) (m : List (Blk G.U.El)) (K : W G.U.El → Option ρ) : Option ρ :=
  match G.tyOf t, x, mx with
  | some .str, .w (.c (.sc (.string s))), none => natOf hi s.size fun h => cond (decide (h ≤ s.size)) (natOf lo 0 fun l => cond (decide (l ≤ h)) (K (str (s.extract l h))) none) none
  | some (.sl e), .w (.c (.row e' r tight loc)), none => if e = e' then natOf hi r.length fun h => cond (decide (h ≤ r.length)) (natOf lo 0 fun l => cond (decide (l ≤ h))
      (match hi with
        | none => K (.c (.row e' (r.drop l) tight loc))
        | some _ => K (.c (.row e' ((r.take h).drop l) false loc))) none) none else none
  | some (.sl e), .w (.c (.row e' _ _ loc)), some (.w (.c (.sc (.int _ 0)))) => if e = e' then match lo, hi with
      | none, some (.w (.c (.sc (.int _ 0)))) => K (.c (.row e' [] true loc))
      | _, _ => none else none
  | some (.sl e), .w (.c (.sl id)), none => match m[id]? with
    | some (.da t' r) => if e = t' then natOf hi r.length fun h => cond (decide (h ≤ r.length)) (natOf lo 0 fun l => cond (decide (l ≤ h)) (K (.c (.sub id t' l (h - l)))) none) none else none
    | _ => none
  | _, _, _ => none

def aLen (t : Nat) (x : V G.U.El) (m : List (Blk G.U.El)) (K : W G.U.El → Option ρ) : Option ρ :=
  match G.tyOf t, x with
  | some .str, .w (.c (.sc (.string s))) => K (int .i64 (s.size : Int))
  | some (.sl _), .w (.c (.row _ l _ _)) => K (int .i64 (l.length : Int))
  | some (.sl _), .w (.c (.sub _ _ _ n)) => K (int .i64 (n : Int))
  | some (.sl _), .w (.c (.sl id)) => match m[id]? with
    | some (.da _ l) => K (int .i64 (l.length : Int))
    | _ => none
  | some (.sl _), .w (.c (.sc (.slice none 0 0))) => K (int .i64 0)
  | _, _ => none

def byteOf : List Value → UInt8
  | [.int _ n] => UInt8.ofNat n.toNat
  | _ => 0

def aConvert (src dst : Nat) (x : V G.U.El) (m : List (Blk G.U.El)) (K : W G.U.El → Option ρ) : Option ρ :=
  match G.tyOf src, G.tyOf dst, x with
  | some _, some (.int k), .w (.c (.sc (.int _ n))) => K (int k (k.wrap n))
  | some _, some .str, .w (.c (.sc (.string s))) => K (str s)
  | some (.sl e), some .str, .w (.c r) => if (G.U.ent e).k = some .u8 then match G.tyOf e, rowOf m e r with
      | some (.int .u8), some l => K (str ⟨(l.map fun y => byteOf (G.U.cells e y)).toArray⟩)
      | _, _ => none else none
  | _, _, _ => none

/-- append: what is appended is a slice. -/
def aAppend (t : Nat) (s x : V G.U.El) (m : List (Blk G.U.El)) (K : W G.U.El → List (Blk G.U.El) → Option ρ) : Option ρ :=
  match G.tyOf t, s, x with
  | some (.sl e), .w (.c s), .w (.c x) => match rowOf m e x, G.ti e with
    | some new, some y => match s with
      | .sl id => match m[id]? with
        | some (.da e' l) => if h : e' = e then cond (decide ((l.length + new.length) * y.bytes ≤ 140737488355328))
            (K (.c (.sl m.length)) (m.set id .dead ++ [.da e ((h ▸ l) ++ new)])) none else none
        | _ => none
      | .row e' l true loc => if h : e' = e then cond (decide (0 < new.length)) (cond (decide ((l.length + new.length) * y.bytes ≤ 140737488355328))
            (K (.c (.sl m.length)) (m ++ [.da e ((h ▸ l) ++ new)])) none) (K (.c (.row e' l true loc)) m) else none
      | .sc (.slice none 0 0) => cond (decide (new.length * y.bytes ≤ 140737488355328)) (K (.c (.sl m.length)) (m ++ [.da e new])) none
      | _ => none
    | _, _ => none
  | _, _, _ => none

def ptrsOf (caps : List (Nat × Nat)) : List (V El) := caps.map fun p => .w (.c (.ptr p.1 p.2))

def capsOf : List (V El) → Option (List (Nat × Nat))
  | [] => some []
  | .w (.c (.ptr a b)) :: vs => (capsOf vs).map ((a, b) :: ·)
  | _ => none

def ownD (dst : Option Nat) : Bool := match dst with | some d => G.own.contains d | none => false
def callOk (c : Con G.U.El) (f : Nat) (m : List (Blk G.U.El)) (args : List (V G.U.El)) : Bool :=
  Nat.blt f 65536 && (c.quiet || G.ios.contains f) && (decide ((mvs m c.ins args).filterMap id).Nodup && (usOf m c.ins args).all fun i => !((mvs m c.ins args).contains (some i)))
def aCall (dst : Option Nat) (f : Nat) (args : List (V G.U.El)) (m : List (Blk G.U.El)) (K : V G.U.El → List (Blk G.U.El) → Option ρ) : Option ρ :=
  match con (keyOf f args) with
  | none => none
  | some c => match ASdec G.U m c.ins args with
    | none => none
    | some x => if callOk G c f m args then (c.plain n x).bind fun y =>
        let r := encOs (ownD G dst || !c.quiet) (lcOf m c.ins args) (c.outs ++ bkSs c.ins) y (kill m (mvs m c.ins args))
        K (resV (r.1.take c.outs.length)) (putBk r.2 (bkIs c.ins args) (bkBlks (bkSs c.ins) (r.1.drop c.outs.length)))
      else none

def aMinMax (mn : Bool) (x y : V G.U.El) (K : W G.U.El → Option ρ) : Option ρ :=
  match x, y with
  | .w (.c (.sc (.int k a))), .w (.c (.sc (.int k' b))) => if k = k' then K (int k (if mn then min a b else max a b)) else none
  | _, _ => none

def aOp (o : Oper) (e : Nat → V G.U.El) (m : List (Blk G.U.El)) (K : V G.U.El → List (Blk G.U.El) → Option ρ) : Option ρ :=
  let k1 : W G.U.El → Option ρ := fun w => K (.w w) m
  let k2 : W G.U.El → List (Blk G.U.El) → Option ρ := fun w m => K (.w w) m
  let v := opv e
  match o.op with
  | .move x | .assign x => K (v x) m
  | .pick c a b => match v c with
    | .w (.c (.sc (.bool t))) => cond t (K (v a) m) (K (v b) m)
    | _ => none
  | .alloc t => match G.ti t with
    | some x => K (.w (.c (.ptr m.length 0))) (m ++ [.st t (zeroC G.U x.zero)])
    | none => none
  | .box t x => match v x, G.ti t with
    | .w w, some y => if widths G.U w.cells = y.size then K (.w (.c (.ptr m.length 0))) (m ++ [.st t w.cells]) else none
    | _, _ => none
  | .build t ps => aBuild G t (ps.toList.map fun p => (p.1, v p.2)) k1
  | .buildSlice t len ps => aBuildSlice G (ownD G o.dst) t len (ps.toList.map fun p => (p.1, v p.2)) m k2
  | .load t a => aLoad G t (v a) m k1
  | .store t a x => match aStore G t (v a) (v x) m with
    | some m' => K .und m'
    | none => none
  | .nilCheck x => match v x with
    | .w (.c (.ptr a b)) => k1 (.c (.ptr a b))
    | .w (.c (.pda a b c d)) => k1 (.c (.pda a b c d))
    | .w (.c (.fn f cs)) => k1 (.c (.fn f cs))
    | _ => none
  | .binOp op t x y _ => aBin G.U G.ti op t (v x) (v y) k1
  | .unOp op _ x => aUn op (v x) k1
  | .convert s d x => aConvert G s d (v x) m k1
  | .makeFunc (.func f) first caps => if first.size = 0 then match capsOf (caps.toList.map v) with
      | some cs => k1 (.c (.fn f cs))
      | none => none else none
  | .makeSlice t a b => aMakeSlice G (ownD G o.dst) t (v a) (v b) m k2
  | .slice t x lo hi mx => aSlice G t (v x) (lo.map v) (hi.map v) (mx.map v) m k1
  | .fieldAddr t x f => aFieldAddr G t f (v x) k1
  | .field t x f => aField G t f (v x) k1
  | .indexAddr t x i => aIndexAddr G t (v x) (v i) m k1
  | .index t x i => aIndex G t (v x) (v i) k1
  | .extract t i => match v t with
    | .tup ws => match ws[i]? with
      | some w => k1 w
      | none => none
    | _ => none
  | .call c => match c.callee with
    | .builtin .len => match c.argTypes.toList, c.args.toList with
      | [t], [x] => aLen G t (v x) m k1
      | _, _ => none
    | .builtin .append => match c.argTypes.toList, c.args.toList with
      | [t, t'], [s, x] => if t' = t then aAppend G t (v s) (v x) m k2 else none
      | _, _ => none
    | .builtin .min => match c.args.toList with
      | [x, y] => aMinMax G true (v x) (v y) k1
      | _ => none
    | .builtin .max => match c.args.toList with
      | [x, y] => aMinMax G false (v x) (v y) k1
      | _ => none
    | .value f => match v f with
      | .w (.c (.fn f caps)) => aCall G con n o.dst f (c.args.toList.map v ++ ptrsOf caps) m K
      | _ => none
    | _ => none
  | _ => none

def dstOk (N : Nat) (pins : List Nat) : Option Nat → Bool
  | none => true
  | some d => Nat.blt d N && !(pins.contains d)

/-- One operation of a region: its guard is asked first. -/
def aOper (ops : List Oper) (o : Oper) (σ : St G.U.El) (K : St G.U.El → Option ρ) : Option ρ :=
  if dstOk G.ntmps G.pins o.dst then match o.guard with
  | none => aOp G con n o σ.env σ.mem fun v m => K ⟨upd σ.env o.dst v, m⟩
  | some (j, want) => match (ops[j]?).bind (·.dst) with
    | none => none
    | some t => if Nat.blt t G.ntmps && !(G.pins.contains t) then match σ.env t with
      | .und => K ⟨upd σ.env o.dst .und, σ.mem⟩
      | .w (.c (.sc (.bool b))) =>
        cond b
          (if want then aOp G con n o (upd σ.env (some t) (.w (bool true))) σ.mem fun v m => K ⟨upd (upd σ.env (some t) (.w (bool true))) o.dst v, m⟩ else K ⟨upd (upd σ.env (some t) (.w (bool true))) o.dst .und, σ.mem⟩)
          (if want then K ⟨upd (upd σ.env (some t) (.w (bool false))) o.dst .und, σ.mem⟩ else aOp G con n o (upd σ.env (some t) (.w (bool false))) σ.mem fun v m => K ⟨upd (upd σ.env (some t) (.w (bool false))) o.dst v, m⟩)
      | _ => none else none
  else none

/-- 0: temporaries alone; 1: reads memory; 2: makes blocks; 3: writes. -/
def opKind (o : Oper) : Nat :=
  let own := ownD G o.dst
  match o.op with
  | .alloc _ | .box .. => 2
  | .buildSlice .. | .makeSlice .. => if own then 2 else 0
  | .store .. => 3
  | .load .. | .convert .. | .slice .. | .indexAddr .. => 1
  | .call c => match c.callee with
    | .builtin .len => 1
    | .builtin .append => 3
    | .builtin _ => 0
    | .value (.func f) => if G.ios.contains f then 3 else if own then 2 else 1
    | .value _ => if G.ios.isEmpty then (if own then 2 else 1) else 3
    | _ => if own then 2 else 1
  | _ => 0

def pick1 (ks : List Nat) (bs : List Nat) (done : Nat) : Nat → Option Nat → Option Nat
  | 0, d => d
  | i + 1, d =>
    let j := ks.length - (i + 1)
    if done.testBit j then pick1 ks bs done i d
    else if (bs.getD j 0) &&& done = bs.getD j 0 then
      if ks.getD j 3 ≤ 1 then some j else pick1 ks bs done i (match d with | none => some j | d => d)
    else pick1 ks bs done i d

/-- An order of a region's operations that puts what makes or writes blocks last. -/
def orderOf (ks bs : List Nat) : Nat → Nat → List Nat
  | 0, _ => []
  | k + 1, done => match pick1 ks bs done ks.length none with
    | some i => i :: orderOf ks bs k (done ||| 2 ^ i)
    | none => []

def pairOk (ops : Array Oper) (ks bs : List Nat) (x y : Nat) : Bool :=
  !(bs.getD x 0).testBit y && ((bs.getD y 0).testBit x ||
    (let k := ks.getD x 3; Nat.ble k 1 && (k == 0 || Nat.ble (ks.getD y 3) 2)) &&
    match ops[x]?, ops[y]? with
    | some a, some b => a.apart ops b
    | _, _ => false)

def pairsOk (ops : Array Oper) (ks bs : List Nat) : List Nat → Bool
  | [] => true
  | x :: xs => xs.all (pairOk ops ks bs x) && !xs.contains x && pairsOk ops ks bs xs

def edgeBits (bs : List Nat) : List Edge → Nat
  | [] => 0
  | e :: es => (if Region.binds .any e then 2 ^ e.on ||| bs.getD e.on 0 else 0) ||| edgeBits bs es

def bsOk (ops : Array Oper) (bs : List Nat) : Bool := (List.range ops.size).all fun i => match ops[i]? with
  | some o => Nat.beq (bs.getD i 0) (edgeBits bs o.after.toList) && o.after.toList.all (fun e => Nat.blt e.on i)
  | none => false

def regionOrder (ops : Array Oper) (draw : Bool) : Option (List Nat) :=
  if draw then
    let ks := ops.toList.map (opKind G); let bs := (Region.before ops).toList
    let o := orderOf ks bs ks.length 0
    if o.length = ops.size && pairsOk ops ks bs o && o.all (Nat.blt · ops.size) && bsOk ops bs then some o else none
  else some (List.range ops.size)

def aOps (ops : List Oper) : List Nat → St G.U.El → (St G.U.El → Option ρ) → Option ρ
  | [], σ, K => K σ
  | i :: is, σ, K => match ops[i]? with
    | none => none
    | some o => aOper G con n ops o σ fun σ => aOps ops is σ K

inductive Ex where
  | normal | ret
  | exit (id : Nat)

abbrev Kt (U : Univ) (ρ : Type) := Nat → Ex → St U.El → Option ρ

/-! ### loops: what stands at a loop's head -/
inductive LS1 where
  | int (k : IntKind) | bool | str | row (t : Nat) (loc : Bool) | arr (t n : Nat)
  | sl (id : Nat) | ptr (id off : Nat) | fn (f : Nat) (caps : List (Nat × Nat))
inductive LS where
  | c (s : LS1) | agg (ss : List LS1)
inductive BS where
  | st (t : Nat) (ss : List LS1)
  | da (t : Nat)
structure Shape where
  env : List (Nat × LS)
  mem : List BS

def LS1.T (El : Nat → Type) : LS1 → Type
  | .int _ => Int
  | .bool => Bool
  | .str => ByteArray
  | .row t _ | .arr t _ => List (El t)
  | _ => Unit
def LTs (El : Nat → Type) : List LS1 → Type
  | [] => Unit
  | s :: ss => s.T El × LTs El ss
def LS.T (El : Nat → Type) : LS → Type
  | .c s => s.T El
  | .agg ss => LTs El ss
def LEs (El : Nat → Type) : List (Nat × LS) → Type
  | [] => Unit
  | p :: ps => p.2.T El × LEs El ps
def BS.T (El : Nat → Type) : BS → Type
  | .st _ ss => LTs El ss
  | .da t => List (El t)
def BTs (El : Nat → Type) : List BS → Type
  | [] => Unit
  | b :: bs => b.T El × BTs El bs
def Shape.X (El : Nat → Type) (s : Shape) : Type := LEs El s.env × BTs El s.mem

def LS1.enc : (s : LS1) → s.T El → C El
  | .int k, n => .sc (.int k n)
  | .bool, b => .sc (.bool b)
  | .str, s => .sc (.string s)
  | .row t loc, l => .row t l false loc
  | .arr t n, l => .arr t n l
  | .sl id, _ => .sl id
  | .ptr id off, _ => .ptr id off
  | .fn f caps, _ => .fn f caps
def Lencs : (ss : List LS1) → LTs El ss → List (C El)
  | [], _ => []
  | s :: ss, (x, y) => s.enc x :: Lencs ss y
def LS.enc : (s : LS) → s.T El → V El
  | .c s, x => .w (.c (s.enc x))
  | .agg ss, x => .w (.agg (Lencs ss x))
def envOf : (ps : List (Nat × LS)) → LEs El ps → Nat → V El
  | [], _, _ => .un
  | p :: ps, (x, y), t => cond (Nat.beq t p.1) (p.2.enc x) (envOf ps y t)
def BS.enc : (b : BS) → b.T El → Blk El
  | .st t ss, x => .st t (Lencs ss x)
  | .da t, l => .da t l
def memOf : (bs : List BS) → BTs El bs → List (Blk El)
  | [], _ => []
  | b :: bs, (x, y) => b.enc x :: memOf bs y
def Shape.enc (s : Shape) (x : s.X El) : St El := ⟨envOf s.env x.1, memOf s.mem x.2⟩

/-- ren: which block a block of the shape is; 'some none': none yet (a nil slice). -/
def capsOk (ren : Nat → Option (Option Nat)) (M : Nat) : List (Nat × Nat) → List (Nat × Nat) → Bool
  | [], [] => true
  | (i, o) :: ps, (j, o') :: qs => decide (ren i = some (some j)) && decide (o = o') && decide (i < M) && capsOk ren M ps qs
  | _, _ => false
def C.row? (t : Nat) (loc : Bool) : C El → Option (List (El t))
  | .row t' l _ loc' => if h : t' = t then if (!loc || loc') = true then some (h ▸ l) else none else none
  | .sc (.slice none 0 0) => some []
  | _ => none
def LS1.dec (ren : Nat → Option (Option Nat)) (M : Nat) : (s : LS1) → C El → Option (s.T El)
  | .int k => C.int? k
  | .bool => C.bool?
  | .str => C.str?
  | .row t loc => C.row? t loc
  | .arr t n => C.arr? t n
  | .sl id => fun c => match c with
    | .sl a => if ren id = some (some a) then if id < M then some () else none else none
    | .sc (.slice none 0 0) => if ren id = some none then if id < M then some () else none else none
    | _ => none
  | .ptr id off => fun c => match c with
    | .ptr a off' => if ren id = some (some a) then if off = off' then if id < M then some () else none else none else none
    | _ => none
  | .fn f caps => fun c => match c with
    | .fn f' caps' => if f = f' then if capsOk ren M caps caps' then some () else none else none
    | _ => none
def Ldecs (ren : Nat → Option (Option Nat)) (M : Nat) : (ss : List LS1) → List (C El) → Option (LTs El ss)
  | [], [] => some ()
  | s :: ss, c :: cs => (s.dec ren M c).bind fun x => (Ldecs ren M ss cs).bind fun y => some (x, y)
  | _, _ => none
def LS.dec (ren : Nat → Option (Option Nat)) (M : Nat) : (s : LS) → V El → Option (s.T El)
  | .c s, .w (.c x) => s.dec ren M x
  | .agg ss, .w (.agg xs) => Ldecs ren M ss xs
  | _, _ => none
def decEnv (ren : Nat → Option (Option Nat)) (M : Nat) (e : Nat → V El) : (ps : List (Nat × LS)) → Option (LEs El ps)
  | [] => some ()
  | p :: ps => (p.2.dec ren M (e p.1)).bind fun x => (decEnv ren M e ps).bind fun y => some (x, y)
def BS.dec (ren : Nat → Option (Option Nat)) (M : Nat) (m : List (Blk El)) (i : Nat) : (b : BS) → Option (b.T El)
  | .st t ss => match ren i with
    | some (some a) => match m[a]? with
      | some (.st t' cs) => if t' = t then Ldecs ren M ss cs else none
      | _ => none
    | _ => none
  | .da t => match ren i with
    | some (some a) => match m[a]? with
      | some (.da t' l) => if h : t' = t then some (h ▸ l) else none
      | _ => none
    | some none => some []
    | none => none
def decMem (ren : Nat → Option (Option Nat)) (M : Nat) (m : List (Blk El)) : (i : Nat) → (bs : List BS) → Option (BTs El bs)
  | _, [] => some ()
  | i, b :: bs => (b.dec ren M m i).bind fun x => (decMem ren M m (i + 1) bs).bind fun y => some (x, y)

/-- Which blocks are meant: a first look. -/
def LS1.pairs : LS1 → C El → List (Nat × Option Nat)
  | .sl id, .sl a => [(id, some a)]
  | .sl id, .sc _ => [(id, none)]
  | .ptr id _, .ptr a _ => [(id, some a)]
  | .fn _ caps, .fn _ caps' => (caps.zip caps').map fun p => (p.1.1, some p.2.1)
  | _, _ => []
def pairs1 : List LS1 → List (C El) → List (Nat × Option Nat)
  | s :: ss, c :: cs => s.pairs c ++ pairs1 ss cs
  | _, _ => []
def LS.pairs : LS → V El → List (Nat × Option Nat)
  | .c s, .w (.c x) => s.pairs x
  | .agg ss, .w (.agg xs) => pairs1 ss xs
  | _, _ => []
def lookR : List (Nat × Option Nat) → Nat → Option (Option Nat)
  | [], _ => none
  | p :: ps, i => cond (Nat.beq p.1 i) (some p.2) (lookR ps i)
def collect (m : List (Blk El)) : Nat → List BS → List (Nat × Option Nat) → List (Nat × Option Nat)
  | _, [], ps => ps
  | i, .st _ ss :: bs, ps => collect m (i + 1) bs (match lookR ps i with
      | some (some a) => match m[a]? with
        | some (.st _ cs) => ps ++ pairs1 ss cs
        | _ => ps
      | _ => ps)
  | i, .da _ :: bs, ps => collect m (i + 1) bs ps
def Shape.ren (s : Shape) (σ : St El) : Nat → Option (Option Nat) :=
  lookR (collect σ.mem 0 s.mem (s.env.flatMap fun p => p.2.pairs (σ.env p.1)))

def Shape.dec (s : Shape) (σ : St El) : Option (s.X El) :=
  if ((List.range s.mem.length).filterMap fun i => (s.ren σ i).bind id).Nodup then
    (decEnv (s.ren σ) s.mem.length σ.env s.env).bind fun x => (decMem (s.ren σ) s.mem.length σ.mem 0 s.mem).bind fun y => some (x, y)
  else none

structure LoopC (El : Nat → Type) (ρ : Type) where
  shape : Shape
  l : Nat → shape.X El → Option ρ

variable (con : Nat → Nat → Option (Con G.U.El)) (L : Nat → Option (LoopC G.U.El ρ))

/-- A loop's head is come to. -/
def headOf (k n : Nat) (σ : St G.U.El) : Option ρ := match L k with
  | some c => (c.shape.dec σ).bind fun x => c.l n x
  | none => none

def aRegion (ops : Array Oper) (draw : Bool) (n : Nat) (σ : St G.U.El) (K : Kt G.U ρ) : Option ρ := match regionOrder G ops draw with
  | some is => aOps G (con n) n ops.toList is σ (fun σ => K n .normal σ)
  | none => none

noncomputable def aev (c : Code) : Nat → Nat → St G.U.El → Kt G.U ρ → Option ρ :=
  Code.rec (motive := fun _ => Nat → Nat → St G.U.El → Kt G.U ρ → Option ρ)
    (fun _ n σ K => K n .normal σ)
    (fun id ops draw _ n σ K => match L (2 * id + 1) with
      | some _ => headOf G L (2 * id + 1) n σ
      | none => aRegion G con ops draw n σ K)
    (fun _ _ a b k n σ K => a k n σ fun n e σ => match e with | .normal => b k n σ K | .ret => K n .ret σ | .exit i => K n (.exit i) σ)
    (fun c _ _ x y k n σ K => match opv σ.env c with
      | .w (.c (.sc (.bool t))) => cond t (x k n σ K) (y k n σ K)
      | _ => none)
    (fun id _ c _ n σ K => c id n σ fun n e σ => match e with | .exit i => cond (Nat.beq i id) (K n .normal σ) (K n (.exit i) σ) | .normal => K n .normal σ | .ret => K n .ret σ)
    (fun _ _ k n σ _ => headOf G L (2 * k) n σ)
    (fun _ _ _ _ _ _ _ _ _ _ => none)
    (fun id _ n σ K => K n (.exit id) σ)
    (fun _ _ _ _ _ _ => none)
    (fun _ _ _ _ _ => none)
    (fun _ _ _ _ _ => none)
    (fun _ n σ K => K n .ret σ)
    (fun _ _ _ _ _ => none) c

/-- The loops of a code: each round comes to what its plain function says. -/
def loopsOk (c : Code) : Nat → Kt G.U ρ → Prop :=
  Code.rec (motive := fun _ => Nat → Kt G.U ρ → Prop)
    (fun _ _ => True)
    (fun id ops draw _ K => ∀ c, L (2 * id + 1) = some c → ∀ n x r, c.l n x = some r → aRegion G con ops draw n (c.shape.enc x) K = some r)
    (fun _ b a' b' k K => a' k (fun n e σ => match e with | .normal => aev G con L b k n σ K | .ret => K n .ret σ | .exit i => K n (.exit i) σ) ∧ b' k K)
    (fun _ _ _ x y k K => x k K ∧ y k K)
    (fun id _ c _ K => c id fun n e σ => match e with | .exit i => cond (Nat.beq i id) (K n .normal σ) (K n (.exit i) σ) | .normal => K n .normal σ | .ret => K n .ret σ)
    (fun body b k K => (∀ c, L (2 * k) = some c → (∀ x, c.l 0 x = none) ∧ ∀ n x r, c.l (n + 1) x = some r → aev G con L body k n (c.shape.enc x) (fun n e σ => match e with | .normal => headOf G L (2 * k) n σ | .ret => K n .ret σ | .exit i => K n (.exit i) σ) = some r) ∧
      b k fun n e σ => match e with | .normal => headOf G L (2 * k) n σ | .ret => K n .ret σ | .exit i => K n (.exit i) σ)
    (fun _ _ _ _ _ _ _ _ => True)
    (fun _ _ _ => True)
    (fun _ _ _ _ => True)
    (fun _ _ _ => True)
    (fun _ _ _ => True)
    (fun _ _ => True)
    (fun _ _ _ => True) c

def resOf (rs : List ResultVar) (σ : St G.U.El) : Option (List (W G.U.El)) :=
  match rs with
  | [] => some []
  | .tmp t :: rs => match σ.env t with
    | .w x => (resOf rs σ).map (x :: ·)
    | _ => none
  | .cell a t :: rs => (aLoad G t (σ.env a) σ.mem some).bind fun x => (resOf rs σ).map (x :: ·)

/-- What comes back is known by temporaries that are written by nobody. -/
def pinsOk : List AS → Nat → Bool
  | [], _ => true
  | s :: ss, i => (s.bkS.isEmpty || G.pins.contains i) && pinsOk ss (i + 1)
def S1.width (U : Univ) : S1 → Nat
  | .arr t n => n * U.sz t
  | _ => 1
def C.isIp : C El → Bool
  | .sl _ => true
  | .sc (.slice none 0 0) => true
  | _ => false
def S1.align (U : Univ) (s : S1) (c : C U.El) : Bool := Nat.beq (s.width U) (c.width U) && (match s with
  | .ip _ => c.isIp
  | _ => true)
def align1 (U : Univ) : List S1 → List (C U.El) → Bool
  | [], [] => true
  | s :: ss, c :: cs => s.align U c && align1 U ss cs
  | _, _ => false
def AS.align (U : Univ) : AS → V U.El → Bool
  | .c s, .w (.c x) => s.bkS.isEmpty || s.align U x
  | .c s, _ => s.bkS.isEmpty
  | .agg ss, .w (.agg xs) => (bkS1 ss).isEmpty || align1 U ss xs
  | .agg ss, _ => (bkS1 ss).isEmpty
  | .io _ _, .w (.c (.ptr _ off)) => Nat.beq off 0
  | .io _ _, _ => false
  | .fnp _ caps, .w (.c (.fn _ cs)) => Nat.beq caps.length cs.length && cs.all fun c => Nat.beq c.2 0
  | .fnp _ caps, _ => caps.isEmpty
  | _, _ => true
def aligns (U : Univ) : List AS → List (V U.El) → Bool
  | [], [] => true
  | s :: ss, v :: vs => s.align U v && aligns U ss vs
  | _, _ => false

def isBk : AS → Bool
  | .bk _ => true
  | _ => false
def kEnd (fn : Func) (ins outs : List AS) : Kt G.U (Os G.U.El (outs ++ bkSs ins)) := fun _ e σ => match e with
  | .exit _ => none
  | _ => (resOf G fn.results.toList σ).bind fun vs =>
    let ps := (List.range ins.length).map σ.env
    let is := bkIs ins ps
    (bkWs σ.mem (bkSs ins) is).bind fun bs =>
      if handsOk (srcsOf σ.mem (outs ++ bkSs ins) (vs ++ bs) ++ is) (usesOf σ.mem (outs ++ bkSs ins) (vs ++ bs)) && (pinsOk G ins 0 && aligns G.U ins ps && Nat.beq vs.length outs.length && !(outs.any isBk)) then Oout σ.mem (outs ++ bkSs ins) (vs ++ bs) else none

def startOf (ins : List AS) (x : ASs G.U.El ins) : St G.U.El := ⟨fun t => (encIs ins x []).1.getD t .und, (encIs ins x []).2⟩

noncomputable def aFun (fn : Func) (ins outs : List AS) (L : Nat → Option (LoopC G.U.El (Os G.U.El (outs ++ bkSs ins)))) (n : Nat) (x : ASs G.U.El ins) : Option (Os G.U.El (outs ++ bkSs ins)) :=
  match fn.body with
  | some c => aev G con L c 0 n (startOf G ins x) (kEnd G fn ins outs)
  | none => none

end

end Go.Proofs.Ytigoabhkdipdeaa.AM
