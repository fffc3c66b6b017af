/- The abstract machine over typed pure values: its definitions. Nothing of memory is in its values but tokens; it is shown sound against the model's steps in the texts behind this one. -/
import Derived.Calls
import Derived.KernelRfl
set_option linter.unusedVariables false
namespace Go.Proofs.YtcdcijhfjiahkaaDoorR.K
open Go

/-! ### types of pure values -/
inductive Ty where
  | unit | bool | int (k : IntKind) | str | sl (t : Ty) | own (t : Ty) | pair (a b : Ty) | one (t : Ty) | fn (f : Nat)
  deriving DecidableEq

@[reducible] def den : Ty → Type
  | .unit => Unit
  | .bool => Bool
  | .int _ => Int
  | .str => List UInt8
  | .sl t => List (den t)
  | .own t => List (den t)
  | .pair a b => den a × den b
  | .one t => den t
  | .fn _ => Unit

def dfl : (t : Ty) → den t
  | .unit => ()
  | .bool => false
  | .int _ => (0 : Int)
  | .str => ([] : List UInt8)
  | .sl t => ([] : List (den t))
  | .own t => ([] : List (den t))
  | .pair a b => (dfl a, dfl b)
  | .one t => dfl t
  | .fn _ => ()

def csz : Ty → Nat
  | .unit => 0
  | .pair a b => csz a + csz b
  | .one t => csz t
  | _ => 1

def isAgg : Ty → Bool
  | .pair _ _ => true
  | .one _ => true
  | _ => false

def tyL : List Ty → Ty
  | [] => .unit
  | [t] => t
  | t :: ts => .pair t (tyL ts)

/-! ### values of the machine -/
inductive AV where
  | undef
  | bool (b : Bool)
  | int (k : IntKind) (n : Int)
  | str (s : List UInt8)
  | sl (t : Ty) (l : List (den t)) (full : Bool)
  | nilsl
  | who (tok : Nat) (full : Bool)                       -- all of a token's slice
  | ref (tok : Nat) (off len : Nat) (full : Bool)       -- a part of it
  | ptr (tok off : Nat)
  | eptr (tok i off : Nat)
  | rptr (t : Ty) (x : den t) (off : Nat)
  | func (f : Nat) (first caps : List AV)
  | agg (cs : List AV)
  | tup (vs : List AV)
  | cst (v : Value)

inductive Blk where
  | arr (t : Ty) (l : List (den t))
  | fro (t : Ty) (l : List (den t))
  | box (cs : List AV)

abbrev Env := List (Nat × AV)
abbrev Heap := List (Nat × Blk)

def get : Env → Nat → AV
  | [], _ => .undef
  | (u, v) :: e, t => match Nat.beq u t with
    | true => v
    | false => get e t

def put : Env → Nat → AV → Env
  | [], t, v => [(t, v)]
  | (u, x) :: e, t, v => match Nat.beq u t with
    | true => (u, v) :: e
    | false => (u, x) :: put e t v

def hget : Heap → Nat → Option Blk
  | [], _ => none
  | (u, v) :: e, t => match Nat.beq u t with
    | true => some v
    | false => hget e t

def hput : Heap → Nat → Blk → Heap
  | [], t, v => [(t, v)]
  | (u, x) :: e, t, v => match Nat.beq u t with
    | true => (u, v) :: e
    | false => (u, x) :: hput e t v

def nodupB : List Nat → Bool
  | [] => true
  | x :: xs => !xs.elem x && nodupB xs

def hdel : Heap → Nat → Heap
  | [], _ => []
  | (u, x) :: e, t => match Nat.beq u t with
    | true => hdel e t
    | false => (u, x) :: hdel e t

/-- The cells of a pure value. -/
def cellsOf : (t : Ty) → den t → List AV
  | .unit, _ => []
  | .bool, b => [.bool b]
  | .int k, n => [.int k n]
  | .str, s => [.str s]
  | .sl t, l => [.sl t l false]
  | .own t, l => [.sl t l false]
  | .pair a b, x => cellsOf a x.1 ++ cellsOf b x.2
  | .one t, x => cellsOf t x
  | .fn f, _ => [.func f [] []]

def ofDen : (t : Ty) → den t → AV
  | .unit, _ => .undef
  | .bool, b => .bool b
  | .int k, n => .int k n
  | .str, s => .str s
  | .sl t, l => .sl t l false
  | .own t, l => .sl t l false
  | .pair a b, x => .agg (cellsOf (.pair a b) x)
  | .one t, x => .agg (cellsOf t x)
  | .fn f, _ => .func f [] []

/-- One cell read as a pure value. -/
def ofCell : (t : Ty) → AV → Option (den t)
  | .bool, .bool b => some b
  | .int k, .int k' n => if k = k' then some n else none
  | .str, .str s => some s
  | .sl t, .sl t' l _ => if h : t' = t then some (h ▸ l) else none
  | .sl t, .nilsl => some ([] : List (den t))
  | .own t, .sl t' l _ => if h : t' = t then some (h ▸ l) else none
  | .own t, .nilsl => some ([] : List (den t))
  | .fn f, .func f' [] [] => match Nat.beq f f' with
    | true => some ()
    | false => none
  | _, _ => none

def ofCells : (t : Ty) → List AV → Option (den t × List AV)
  | .unit, cs => some ((), cs)
  | .pair a b, cs => match ofCells a cs with
    | some (x, cs) => match ofCells b cs with
      | some (y, cs) => some ((x, y), cs)
      | none => none
    | none => none
  | .one t, cs => ofCells t cs
  | t, c :: cs => match ofCell t c with
    | some x => some (x, cs)
    | none => none
  | _, [] => none

def deep (H : Heap) : AV → AV
  | .who tok _ => match hget H tok with
    | some (.arr t l) => .sl t l false
    | some (.fro t l) => .sl t l false
    | _ => .undef
  | .ref tok off len _ => match hget H tok with
    | some (.arr t l) => .sl t ((l.drop off).take len) false
    | some (.fro t l) => .sl t ((l.drop off).take len) false
    | _ => .undef
  | v => v

def cells : AV → List AV
  | .agg cs => cs
  | v => [v]

def toDen (H : Heap) (t : Ty) (v : AV) : Option (den t) :=
  match isAgg t, v with
  | true, .agg cs => match ofCells t (cs.map (deep H)) with
    | some (x, []) => some x
    | _ => none
  | false, v => match t with
    | .unit => none
    | t => ofCell t (deep H v)
  | _, _ => none

def toDenL (H : Heap) : (ts : List Ty) → List AV → Option (den (tyL ts))
  | [], [] => some ()
  | [t], [v] => toDen H t v
  | t :: u :: ts, v :: vs => match toDen H t v with
    | some x => match toDenL H (u :: ts) vs with
      | some y => some (x, y)
      | none => none
    | none => none
  | _, _ => none

def ofDenL : (ts : List Ty) → den (tyL ts) → List AV
  | [], _ => []
  | [t], x => [ofDen t x]
  | t :: u :: ts, x => ofDen t x.1 :: ofDenL (u :: ts) x.2

/-- Does a type hold slices? -/
def hasSl : Ty → Bool
  | .sl _ => true
  | .own _ => true
  | .pair a b => hasSl a || hasSl b
  | .one t => hasSl t
  | _ => false

def hasOwn : Ty → Bool
  | .own _ => true
  | .pair a b => hasOwn a || hasOwn b
  | .one t => hasOwn t
  | _ => false

/-- A result's cells, its own slices as new tokens. -/
def impCells (base : Nat) : (t : Ty) → den t → Nat → List AV × Heap × Nat
  | .own t, l, j => ([.who (base + j) false], [(base + j, .arr t l)], j + 1)
  | .pair a b, x, j => match impCells base a x.1 j with
    | (c1, h1, j) => match impCells base b x.2 j with
      | (c2, h2, j) => (c1 ++ c2, h1 ++ h2, j)
  | .one t, x, j => impCells base t x j
  | t, x, j => (cellsOf t x, [], j)

def imp (base : Nat) (t : Ty) (x : den t) (j : Nat) : AV × Heap × Nat :=
  match hasOwn t with
  | false => (ofDen t x, [], j)
  | true => match isAgg t, impCells base t x j with
    | true, (cs, h, j) => (.agg cs, h, j)
    | false, (c :: _, h, j) => (c, h, j)
    | false, ([], h, j) => (.undef, h, j)

def impL (base : Nat) : (ts : List Ty) → den (tyL ts) → Nat → List AV × Heap × Nat
  | [], _, j => ([], [], j)
  | [t], x, j => match imp base t x j with
    | (v, h, j) => ([v], h, j)
  | t :: u :: ts, x, j => match imp base t x.1 j with
    | (v, h1, j) => match impL base (u :: ts) x.2 j with
      | (vs, h2, j) => (v :: vs, h1 ++ h2, j)

/-! ### which tokens a value names -/
mutual
def toks : AV → List Nat
  | .who t _ => [t]
  | .ref t _ _ _ => [t]
  | .ptr t _ => [t]
  | .eptr t _ _ => [t]
  | .func _ a b => toksL a ++ toksL b
  | .agg cs => toksL cs
  | .tup vs => toksL vs
  | _ => []
def toksL : List AV → List Nat
  | [] => []
  | v :: vs => toks v ++ toksL vs
end

def blkToks : Blk → List Nat
  | .box cs => toksL cs
  | _ => []

def freeze (ts : List Nat) : Heap → Heap
  | [] => []
  | (u, b) :: h => (u, match b with
    | .arr t l => (match ts.elem u with
      | true => .fro t l
      | false => .arr t l)
    | b => b) :: freeze ts h

/-- What a call was handed and may show again in its result is not turned any more. -/
def shown : Bool → List Nat → Heap → Heap
  | true, ts, h => freeze ts h
  | false, _, h => h

/-! ### what is known of the program -/
inductive Sh where
  | bool | int (k : IntKind) | str | sl (e : Nat) | ptr (e : Nat) | st (fs : List (Nat × Nat)) | arr (n e : Nat) | other
  deriving DecidableEq

def shOf : TypeDesc → Sh
  | .bool => .bool
  | .int k => .int k
  | .string => .str
  | .slice e => .sl e
  | .pointer e => .ptr e
  | .struct fs => .st (fs.toList.map fun f => (f.offset, f.type))
  | .array n e => .arr n e
  | _ => .other

structure TI where
  sh : Sh
  size : Nat
  bytes : Nat
  zero : List AV          -- a zero value's cells
  ty : Option Ty
  fl : List (Nat × Nat × Bool)   -- of a struct: each field's place, cells, and whether it is a struct
  eq : Bool                -- of a struct: '==' goes cell by cell, and each cell is a number, a truth or a text

inductive Disp where
  | no
  | inl
  | spec (i : Nat)

inductive Shape where
  | keep
  | im (t : Ty)            -- a pure value, not to be turned any more
  | own (tok : Nat) (t : Ty)   -- a slice of this run's own, at this token

structure Ann where
  live : List (Nat × Shape)
  toks : List (Nat × List Shape)

abbrev Path := List Nat

structure Fr where
  f : Nat
  path : Path
  op : Nat
  rest : List Nat
  env : Env
  salt : Nat

structure St where
  env : Env
  heap : Heap
  salt : Nat

structure Ctx where
  ti : Nat → Option TI
  fn : Nat → Option Func
  disp : Nat → Nat → List AV → Disp     -- by the instance below, the function, and what it is handed
  fid : Nat → Nat
  pts : Nat → List Ty
  rts : Nat → List Ty
  ext : (i : Nat) → Option (den (tyL (pts i)) → Option (den (tyL (rts i))))
  ann : Nat → Nat → Path → Option Ann
  inv : World → Prop       -- what library functions want of the memory that was there at the start

variable (C : Ctx)

/-! ### one operation -/
inductive OR where
  | no
  | ok (c b : Bool) (v1 v2 : AV) (h : Heap)

def OR.v (v : AV) (h : Heap) : OR := .ok true true v .undef h
def OR.cv (c : Bool) (v : AV) (h : Heap) : OR := .ok c true v .undef h

def avOf : Value → AV
  | .bool b => .bool b
  | .int k n => .int k n
  | .string s => .str s.data.toList
  | .slice none 0 0 => .nilsl
  | v => .cst v

def ev (e : Env) : Operand → AV
  | .tmp t => get e t
  | .const v => avOf v
  | .func f => .func f [] []
  | .global _ => .undef

def bitop (op : BinOp) (k : IntKind) (x y : Int) : Int :=
  let a := BitVec.ofInt k.bits x
  let b := BitVec.ofInt k.bits y
  match op with
  | .and => k.wrap (a &&& b).toNat
  | .or => k.wrap (a ||| b).toNat
  | .xor => k.wrap (a ^^^ b).toNat
  | _ => k.wrap (a &&& ~~~b).toNat

def cellEq : AV → AV → Option Bool
  | .bool a, .bool b => some (a == b)
  | .int k a, .int k' b => if k = k' then some (decide (a = b)) else none
  | .str a, .str b => some (decide (a = b))
  | _, _ => none

def cellsEq : List AV → List AV → Option Bool
  | [], [] => some true
  | [x], [y] => cellEq x y
  | x :: x' :: xs, y :: ys => match cellEq x y, cellsEq (x' :: xs) ys with
    | some a, some b => some (a && b)
    | _, _ => none
  | _, _ => none

def kindOf : AV → Nat
  | .bool _ => 1
  | .int _ _ => 2
  | .str _ => 3
  | _ => 0

def sameKinds : List AV → List AV → Bool
  | [], [] => true
  | a :: as, b :: bs => Nat.beq (kindOf a) (kindOf b) && sameKinds as bs
  | _, _ => false

def binOp (op : BinOp) (t : Nat) (x y : AV) (h : Heap) : OR :=
  match x, y with
  | .int k a, .int k' b =>
    match op with
    | .shl => .cv (decide (0 ≤ b)) (.int k (k.wrap (a * 2 ^ min b.toNat k.bits))) h
    | .shr => .cv (decide (0 ≤ b)) (.int k (a.fdiv (2 ^ min b.toNat k.bits))) h
    | op =>
      if k = k' then
        match op with
        | .add => .v (.int k (k.wrap (a + b))) h
        | .sub => .v (.int k (k.wrap (a - b))) h
        | .mul => .v (.int k (k.wrap (a * b))) h
        | .quo => .cv (!decide (b = 0)) (.int k (k.wrap (a.tdiv b))) h
        | .rem => .cv (!decide (b = 0)) (.int k (a.tmod b)) h
        | .and => .v (.int k (bitop .and k a b)) h
        | .or => .v (.int k (bitop .or k a b)) h
        | .xor => .v (.int k (bitop .xor k a b)) h
        | .andNot => .v (.int k (bitop .andNot k a b)) h
        | .eql => .v (.bool (decide (a = b))) h
        | .neq => .v (.bool (!decide (a = b))) h
        | .lss => .v (.bool (decide (a < b))) h
        | .leq => .v (.bool (decide (a ≤ b))) h
        | .gtr => .v (.bool (decide (a > b))) h
        | .geq => .v (.bool (decide (a ≥ b))) h
        | _ => .no
      else .no
  | .str a, .str b =>
    match op with
    | .add => .cv (Nat.ble (a.length + b.length) 9223372036854775807) (.str (a ++ b)) h
    | .eql => .v (.bool (decide (a = b))) h
    | .neq => .v (.bool (!decide (a = b))) h
    | .lss => .v (.bool (Op.bytesLess a b)) h
    | .leq => .v (.bool (Op.bytesLess a b || decide (a = b))) h
    | .gtr => .v (.bool (!(Op.bytesLess a b || decide (a = b)))) h
    | .geq => .v (.bool (!Op.bytesLess a b)) h
    | _ => .no
  | .bool a, .bool b =>
    match C.ti t with
    | some ti => match ti.sh with
      | .bool => match op with
        | .eql => .v (.bool (a == b)) h
        | .neq => .v (.bool (!(a == b))) h
        | _ => .no
      | _ => .no
    | none => .no
  | .agg a, .agg b =>
    match C.ti t with
    | some ti => match ti.eq && sameKinds a ti.zero, cellsEq a b with
      | true, some c => match op with
        | .eql => .v (.bool c) h
        | .neq => .v (.bool (!c)) h
        | _ => .no
      | _, _ => .no
    | none => .no
  | _, _ => .no

def unOp (op : UnOp) (x : AV) (h : Heap) : OR :=
  match op, x with
  | .not, .bool b => .v (.bool (!b)) h
  | .neg, .int k n => .v (.int k (k.wrap (0 - n))) h
  | .xor, .int k n => .v (.int k (bitop .xor k (if k.signed then -1 else k.max) n)) h
  | _, _ => .no

/-- A slice of bytes, as a text. -/
def bytesOf (l : List Int) : List UInt8 := l.map fun n => UInt8.ofNat n.toNat

def convert (src dst : Nat) (x : AV) (tok : Nat) (h : Heap) : OR :=
  match C.ti dst, C.ti src with
  | some ti, some ts => match ti.sh, x with
    | .int k, .int _ n => .v (.int k (k.wrap n)) h
    | .str, .str s => .v (.str s) h
    | .sl e, .str s => match C.ti e with
      | some te => match te.sh with
        | .int .u8 => .v (.who tok false) (hput h tok (.arr (.int .u8) (s.map fun b => (b.toNat : Int))))
        | _ => .no
      | none => .no
    | .str, x => match ts.sh with
      | .sl e => match C.ti e with
        | some te => match te.sh with
          | .int .u8 => match toDen h (.sl (.int .u8)) x with
            | some l => .v (.str (bytesOf l)) h
            | none => .no
          | _ => .no
        | none => .no
      | _ => .no
    | _, _ => .no
  | _, _ => .no

def natOf (v : AV) : Option Int :=
  match v with
  | .int _ n => some n
  | _ => none

/-- The cells of a slice's element, by its type. -/
def eltSz (t : Nat) : Option Nat :=
  match C.ti t with
  | some ti => match ti.sh with
    | .sl e => match C.ti e with
      | some te => some te.size
      | none => none
    | _ => none
  | none => none

def isStr (t : Nat) : Bool :=
  match C.ti t with
  | some ti => match ti.sh with
    | .str => true
    | _ => false
  | none => false

/-- The cells of an element of a slice. -/
def avSz (x : AV) (h : Heap) : Option Nat :=
  match x with
  | .sl t _ _ => some (csz t)
  | .who tok _ => match hget h tok with
    | some (.arr t _) => some (csz t)
    | some (.fro t _) => some (csz t)
    | _ => none
  | .ref tok _ _ _ => match hget h tok with
    | some (.arr t _) => some (csz t)
    | some (.fro t _) => some (csz t)
    | _ => none
  | _ => none

/-- Has a value the type of a text, or of a slice of such elements? -/
def fitsTy (t : Nat) (x : AV) (h : Heap) : Bool :=
  match x with
  | .str _ => isStr C t
  | .nilsl => (eltSz C t).isSome
  | x => match eltSz C t, avSz x h with
    | some n, some m => Nat.beq n m
    | _, _ => false

def optI : Option AV → Option (Option Int)
  | none => some none
  | some v => match natOf v with
    | some n => some (some n)
    | none => none

def slChk (l u m : Option Int) (len : Nat) : Bool :=
  match m with
  | none => (match l, u with
    | none, none => true
    | some l, none => decide (0 ≤ l) && decide (l ≤ (len : Int))
    | none, some u => decide (0 ≤ u) && decide (u ≤ (len : Int))
    | some l, some u => decide (0 ≤ l) && (decide (l ≤ u) && decide (u ≤ (len : Int))))
  | some m => match u with
    | none => false
    | some u => match l with
      | none => decide (0 ≤ u) && (decide (u ≤ m) && decide (m ≤ (len : Int)))
      | some l => decide (0 ≤ l) && (decide (l ≤ u) && (decide (u ≤ m) && decide (m ≤ (len : Int))))

def slLo : Option Int → Nat
  | none => 0
  | some l => l.toNat

def slHi (u : Option Int) (len : Nat) : Nat :=
  match u with
  | none => len
  | some u => u.toNat

def cutL {α : Type} (l u : Option Int) (s : List α) : List α :=
  match l, u with
  | none, none => s
  | some l, none => s.drop l.toNat
  | none, some u => s.take u.toNat
  | some l, some u => (s.take u.toNat).drop l.toNat

/-- Is the capacity left at the length? Asked only where a third index is. -/
def slEq (u m : Option Int) : Bool :=
  match m, u with
  | none, _ => true
  | some m, some u => decide (u = m)
  | some _, none => true

def slFull (f : Bool) (u m : Option Int) : Bool :=
  match m, u with
  | none, none => f
  | none, some _ => false
  | some _, _ => true

def lenH (tok : Nat) (h : Heap) : Option Nat :=
  match hget h tok with
  | some (.arr _ l) => some l.length
  | some (.fro _ l) => some l.length
  | _ => none

/-- x[lo:hi], x[lo:hi:mx]: of a text or a slice, within its length. -/
def sliceOp (x : AV) (l u m : Option Int) (h : Heap) : OR :=
  match x with
  | .str s => match m with
    | none => .cv (slChk l u none s.length) (.str (cutL l u s)) h
    | some _ => .no
  | .sl t s f => .ok (slChk l u m s.length) (slEq u m) (.sl t (cutL l u s) (slFull f u m)) (.sl t (cutL l u s) false) h
  | .nilsl => .cv (slChk l u m 0) .nilsl h
  | .who tok f => match lenH tok h with
    | some len => match l, u, m with
      | none, none, none => .v (.who tok f) h
      | l, u, m => .ok (slChk l u m len) (slEq u m) (.ref tok (slLo l) (slHi u len - slLo l) (slFull f u m)) (.ref tok (slLo l) (slHi u len - slLo l) false) h
    | none => .no
  | .ref tok off len f => .ok (slChk l u m len) (slEq u m) (.ref tok (off + slLo l) (slHi u len - slLo l) (slFull f u m)) (.ref tok (off + slLo l) (slHi u len - slLo l) false) h
  | _ => .no

def lenOf (x : AV) (h : Heap) : Option Int :=
  match x with
  | .who tok _ => match hget h tok with
    | some (.arr _ l) => some (l.length : Int)
    | some (.fro _ l) => some (l.length : Int)
    | _ => none
  | .str s => some (s.length : Int)
  | .sl _ l _ => some (l.length : Int)
  | .nilsl => some 0
  | .ref _ _ len _ => some (len : Int)
  | _ => none

/-- cells [off, off + n) of a row -/
def part (cs : List AV) (off n : Nat) (agg : Bool) : AV :=
  match agg with
  | true => .agg ((cs.drop off).take n)
  | false => match cs.drop off with
    | c :: _ => c
    | [] => .undef

def TI.agg (ti : TI) : Bool := match ti.sh with
  | .st _ => true
  | .arr _ _ => true
  | _ => false

/-- One cell of memory can hold it. -/
def solid : AV → Bool
  | .undef => false
  | .agg _ => false
  | .tup _ => false
  | .cst (.agg _) => false
  | .cst (.tuple _) => false
  | _ => true

/-- A value that a variable of so many cells can hold. -/
def fits (v : AV) (n : Nat) : Bool := Nat.beq (cells v).length n && (cells v).all solid

def loadOp (ti : TI) (p : AV) (h : Heap) : OR :=
  match p with
  | .ptr tok off => match hget h tok with
    | some (.box cs) => match Nat.ble (off + ti.size) cs.length with
      | true => .v (part cs off ti.size ti.agg) h
      | false => .no
    | _ => .no
  | .eptr tok i off => match hget h tok with
    | some (.arr t l) => match Nat.ble (off + ti.size) (csz t) with
      | true => .v (part (cellsOf t (l.getD i (dfl t))) off ti.size ti.agg) h
      | false => .no
    | some (.fro t l) => match Nat.ble (off + ti.size) (csz t) with
      | true => .v (part (cellsOf t (l.getD i (dfl t))) off ti.size ti.agg) h
      | false => .no
    | _ => .no
  | .rptr t x off => match Nat.ble (off + ti.size) (csz t) with
    | true => .v (part (cellsOf t x) off ti.size ti.agg) h
    | false => .no
  | _ => .no

def setCells (cs : List AV) (off : Nat) (new : List AV) : List AV := cs.take off ++ new ++ cs.drop (off + new.length)

/-- A store: the heap behind it. -/
def storeOp (ti : TI) (p v : AV) (h : Heap) : Option Heap :=
  match fits v ti.size with
  | false => none
  | true => match p with
    | .ptr tok off => match hget h tok with
      | some (.box cs) => match Nat.ble (off + ti.size) cs.length with
        | true => some (hput h tok (.box (setCells cs off (cells v))))
        | false => none
      | _ => none
    | .eptr tok i off => match hget h tok with
      | some (.arr t l) => match Nat.ble (off + ti.size) (csz t) with
        | true => match ofCells t (setCells (cellsOf t (l.getD i (dfl t))) off ((cells v).map (deep h))) with
          | some (x, []) => match (toks v).elem tok with
            | false => some (hput (freeze (toks v) h) tok (.arr t (l.set i x)))
            | true => none
          | _ => none
        | false => none
      | _ => none
    | _ => none

def fieldOf (ti : TI) (f : Nat) : Option (Nat × Nat × Bool) := ti.fl[f]?

def fieldAddrOp (ti : TI) (p : AV) (f : Nat) (h : Heap) : OR :=
  match fieldOf ti f with
  | none => .no
  | some (o, _, _) => match p with
    | .ptr tok off => .v (.ptr tok (off + o)) h
    | .eptr tok i off => .v (.eptr tok i (off + o)) h
    | .rptr t x off => .v (.rptr t x (off + o)) h
    | _ => .no

def fieldOp (ti : TI) (x : AV) (f : Nat) (h : Heap) : OR :=
  match fieldOf ti f, x with
  | some (o, n, a), .agg cs => match Nat.ble (o + n) cs.length with
    | true => .v (part cs o n a) h
    | false => .no
  | _, _ => .no

def indexAddrOp (x i : AV) (h : Heap) : OR :=
  match natOf i with
  | none => .no
  | some i => match x with
    | .sl t l _ => .cv (decide (0 ≤ i) && decide (i < (l.length : Int))) (.rptr t (l.getD i.toNat (dfl t)) 0) h
    | .who tok _ => match lenOf (.who tok false) h with
      | some n => .cv (decide (0 ≤ i) && decide (i < n)) (.eptr tok i.toNat 0) h
      | none => .no
    | .ref tok off len _ => .cv (decide (0 ≤ i) && decide (i < (len : Int))) (.eptr tok (off + i.toNat) 0) h
    | _ => .no

def indexOp (x i : AV) (h : Heap) : OR :=
  match natOf i with
  | none => .no
  | some i => match x with
    | .str s => .cv (decide (0 ≤ i) && decide (i < (s.length : Int))) (.int .u8 ((s.getD i.toNat 0).toNat : Int)) h
    | _ => .no

/-- A struct's cells: the zero value's, with parts laid over them. -/
def fillCells (ti : TI) : List (Nat × AV) → List AV → Option (List AV)
  | [], cs => some cs
  | (f, v) :: ps, cs => match fieldOf ti f with
    | some (o, n, _) => match fits v n, Nat.ble (o + n) cs.length with
      | true, true => fillCells ti ps (setCells cs o (cells v))
      | _, _ => none
    | none => none

def elemsOf (h : Heap) (t : Ty) (ps : List (Nat × AV)) : (i n : Nat) → Option (List (den t))
  | _, 0 => some []
  | i, n + 1 => match (match ps.find? (fun p => Nat.beq p.1 i) with
      | some p => toDen h t p.2
      | none => some (dfl t)), elemsOf h t ps (i + 1) n with
    | some x, some xs => some (x :: xs)
    | _, _ => none

def elemTy (st : Nat) : Option (Nat × Ty × TI) :=
  match C.ti st with
  | some ti => match ti.sh with
    | .sl e => match C.ti e with
      | some te => match te.ty, Nat.ble 1 te.size && Nat.ble 1 te.bytes with
        | some t, true => some (e, t, te)
        | _, _ => none
      | none => none
    | _ => none
  | none => none

/-- What is appended. -/
def newsOf (h : Heap) (t : Ty) (x : AV) : Option (List (den t)) :=
  match x with
  | .str s => match t with
    | .int .u8 => some (s.map fun b => (b.toNat : Int))
    | _ => none
  | x => toDen h (.sl t) x

def notInt (t : Nat) : Bool :=
  match C.ti t with
  | some ti => match ti.sh with
    | .sl _ => true
    | .str => true
    | _ => false
  | none => false

def appendOp (st : Nat) (s x : AV) (tok : Nat) (h : Heap) : OR :=
  match elemTy C st with
  | none => .no
  | some (_, t, te) => match newsOf h t x with
    | none => .no
    | some ys =>
      let room (n : Nat) : Bool := Nat.ble ((n + ys.length) * te.bytes) 140737488355328
      match s with
      | .nilsl => .cv (room 0) (.who tok false) (hput h tok (.arr t ys))
      | .sl t' l true => match (if e : t' = t then some (e ▸ l : List (den t)) else none) with
        | some l => .cv (room l.length && (decide (l.length = 0) || decide (0 < ys.length))) (.who tok false) (hput h tok (.arr t (l ++ ys)))
        | none => .no
      | .who tk full => match hget h tk with
        | some (.arr t' l) => match (if e : t' = t then some (e ▸ l : List (den t)) else none) with
          | some l => .cv (room l.length) (.who tok false) (hput (hdel h tk) tok (.arr t (l ++ ys)))
          | none => .no
        | some (.fro t' l) => match full, (if e : t' = t then some (e ▸ l : List (den t)) else none) with
          | true, some l => .cv (room l.length && (decide (l.length = 0) || decide (0 < ys.length))) (.who tok false) (hput h tok (.arr t (l ++ ys)))
          | _, _ => .no
        | _ => .no
      | .ref tk off len full => match hget h tk with
        | some (.arr t' l) => match (if e : t' = t then some (e ▸ l : List (den t)) else none) with
          | some l => match full with
            | false => match Nat.beq off 0 with
              | true => .cv (room len) (.who tok false) (hput (hdel h tk) tok (.arr t (l.take len ++ ys)))
              | false => .no
            | true => .cv (room len && (decide (len = 0) || decide (0 < ys.length))) (.who tok false) (hput h tok (.arr t ((l.drop off).take len ++ ys)))
          | none => .no
        | some (.fro t' l) => match full, (if e : t' = t then some (e ▸ l : List (den t)) else none) with
          | true, some l => .cv (room len && (decide (len = 0) || decide (0 < ys.length))) (.who tok false) (hput h tok (.arr t ((l.drop off).take len ++ ys)))
          | _, _ => .no
        | _ => .no
      | _ => .no

def maxmin (mx : Bool) : AV → AV → Option AV
  | .int k x, .int k' y => if k = k' then some (.int k (match mx with
      | true => max x y
      | false => min x y)) else none
  | _, _ => none

def builtinOp (b : Builtin) (argTypes : List Nat) (args : List AV) (tok : Nat) (h : Heap) : OR :=
  match b, args with
  | .len, [x] => match argTypes with
    | t :: _ => match fitsTy C t x h, lenOf x h with
      | true, some n => .v (.int .i64 n) h
      | _, _ => .no
    | [] => .no
  | .max, [x, y] => match maxmin true x y with
    | some v => .v v h
    | none => .no
  | .min, [x, y] => match maxmin false x y with
    | some v => .v v h
    | none => .no
  | .append, [s, x] => match argTypes with
    | st :: tx :: _ => match notInt C tx with
      | true => appendOp C st s x tok h
      | false => .no
    | _ => .no
  | _, _ => .no

def extractOp (p : AV) (i : Nat) (h : Heap) : OR :=
  match p with
  | .tup vs => match vs[i]? with
    | some v => .v v h
    | none => .no
  | _ => .no

/-- The operations that call nothing. -/
def plainOp (e : Env) (h : Heap) (tok : Nat) : Op → OR
  | .move x => .v (ev e x) h
  | .assign x => .v (ev e x) h
  | .pick c a b => match ev e c with
    | .bool c => .ok true c (ev e a) (ev e b) h
    | _ => .no
  | .alloc t => match C.ti t with
    | some ti => .v (.ptr tok 0) (hput h tok (.box ti.zero))
    | none => .no
  | .box t x => match C.ti t with
    | some ti => match fits (ev e x) ti.size with
      | true => .v (.ptr tok 0) (hput h tok (.box (cells (ev e x))))
      | false => .no
    | none => .no
  | .build t ps => match C.ti t with
    | some ti => match ti.sh, fillCells ti (ps.toList.map fun p => (p.1, ev e p.2)) ti.zero with
      | .st _, some cs => .v (.agg cs) h
      | _, _ => .no
    | none => .no
  | .buildSlice t n ps => match elemTy C t with
    | some (_, ty, te) => match elemsOf h ty (ps.toList.map fun p => (p.1, ev e p.2)) 0 n, Nat.ble (n * te.size) 16777216 && (nodupB (ps.toList.map (·.1)) && ps.toList.all fun p => Nat.blt p.1 n) with
      | some l, true => .v (.who tok true) (hput (freeze (toksL (ps.toList.map fun p => ev e p.2)) h) tok (.arr ty l))
      | _, _ => .no
    | none => .no
  | .load t p => match C.ti t with
    | some ti => loadOp ti (ev e p) h
    | none => .no
  | .store t p v => match C.ti t with
    | some ti => match storeOp ti (ev e p) (ev e v) h with
      | some h' => .v .undef h'
      | none => .no
    | none => .no
  | .nilCheck x => match ev e x with
    | .ptr t o => .v (.ptr t o) h
    | .eptr t i o => .v (.eptr t i o) h
    | .rptr t x o => .v (.rptr t x o) h
    | .func f a b => .v (.func f a b) h
    | _ => .no
  | .binOp op t x y _ => binOp C op t (ev e x) (ev e y) h
  | .unOp op _ x => unOp op (ev e x) h
  | .convert s d x => convert C s d (ev e x) tok h
  | .slice t x lo hi mx => match fitsTy C t (ev e x) h with
    | true => match optI (lo.map (ev e)), optI (hi.map (ev e)), optI (mx.map (ev e)) with
      | some l, some u, some m => sliceOp (ev e x) l u m h
      | _, _, _ => .no
    | false => .no
  | .fieldAddr t x f => match C.ti t with
    | some ti => fieldAddrOp ti (ev e x) f h
    | none => .no
  | .field t x f => match C.ti t with
    | some ti => fieldOp ti (ev e x) f h
    | none => .no
  | .indexAddr t x i => match fitsTy C t (ev e x) h with
    | true => indexAddrOp (ev e x) (ev e i) h
    | false => .no
  | .index t x i => match isStr C t with
    | true => indexOp (ev e x) (ev e i) h
    | false => .no
  | .extract t i => extractOp (ev e t) i h
  | .makeSlice t n c => match elemTy C t, ev e n, ev e c with
    | some (_, ty, te), .int _ n, .int _ c => match Nat.ble 1 te.bytes with
      | true => .cv (decide (0 ≤ n) && (decide (n ≤ c) && decide (te.bytes * c ≤ 281474976710656))) (.who tok false) (hput h tok (.arr ty (List.replicate n.toNat (dfl ty))))
      | false => .no
    | _, _, _ => .no
  | .makeFunc (.func f) first caps => .v (.func f (first.toList.map (ev e)) (caps.toList.map (ev e))) h
  | .call ⟨.builtin b, args, argTypes⟩ => builtinOp C b argTypes.toList (args.toList.map (ev e)) tok h
  | _ => .no

/-! ### control -/
inductive Ex where
  | normal
  | exit (id : Nat)
  | ret
  | goto (l : Nat)

/-- One value laid in the form that a stop wants. -/
def canonV (sh : Shape) (v : AV) (h : Heap) : Option (AV × Heap × Heap) :=   -- the value; the heap that is left; what the stop keeps of it
  match sh with
  | .keep => some (v, h, [])
  | .im t => match toDen h t v with
    | some y => some (ofDen t y, freeze (toks v) h, [])
    | none => none
  | .own T t => match v with
    | .nilsl => some (.who T false, h, [(T, .arr t [])])
    | .who tok _ => match hget h tok with
      | some (.arr t' l) => if e : t' = t then some (.who T false, hdel h tok, [(T, .arr t (e ▸ l : List (den t)))]) else none
      | _ => none
    | .ref tok off len _ => match hget h tok, Nat.beq off 0 with
      | some (.arr t' l), true => if e : t' = t then some (.who T false, hdel h tok, [(T, .arr t ((e ▸ l : List (den t)).take len))]) else none
      | _, _ => none
    | _ => none

def canonL : List (Shape × AV) → Heap → Option (List AV × Heap × Heap)
  | [], h => some ([], h, [])
  | (sh, v) :: vs, h => match canonV sh v h with
    | some (v, h, n) => match canonL vs h with
      | some (vs, h, ns) => some (v :: vs, h, n ++ ns)
      | none => none
    | none => none

/-- The cells of the boxes that a stop keeps, as further values to be laid. -/
def boxSlots : List (Nat × List Shape) → Heap → Option (List (Shape × AV))
  | [], _ => some []
  | (tok, shs) :: ts, h => match boxSlots ts h with
    | none => none
    | some l => match hget h tok with
      | some (.box cs) => match Nat.beq shs.length cs.length with
        | true => some (shs.zip cs ++ l)
        | false => none
      | some _ => match shs with
        | [] => some l
        | _ :: _ => none
      | none => none

/-- What a stop keeps of the heap, with the boxes' new cells. -/
def rebuild : List (Nat × List Shape) → (h0 hl : Heap) → List AV → Option Heap
  | [], _, _, _ => some []
  | (tok, shs) :: ts, h0, hl, vs => match hget h0 tok with
    | some (.box _) => match rebuild ts h0 hl (vs.drop shs.length) with
      | some hs => some ((tok, .box (vs.take shs.length)) :: hs)
      | none => none
    | _ => match hget hl tok, rebuild ts h0 hl vs with
      | some (.arr t l), some hs => some ((tok, .arr t l) :: hs)
      | some (.fro t l), some hs => some ((tok, .fro t l) :: hs)
      | _, _ => none

/-- The boxes' cells are laid anew: till then nothing is known of them. -/
def blank : Heap → Heap
  | [] => []
  | (u, b) :: h => (u, match b with
    | .box cs => .box (cs.map fun _ => .undef)
    | b => b) :: blank h

/-- A token that a stop lays a slice at is named by nothing else. -/
def fitB (out : List Nat) : List (Shape × AV) → List (Shape × AV) → Bool
  | _, [] => true
  | pre, (sh, v) :: l => (match sh with
    | .own T _ => !out.elem T && ((pre ++ l).all fun q => !(toks q.2).elem T)
    | _ => true) && fitB out ((sh, v) :: pre) l

def envToks (e : Env) : List Nat := e.flatMap fun p => toks p.2
def heapToks (h : Heap) : List Nat := h.flatMap fun p => p.1 :: blkToks p.2

def canon (a : Ann) (stk : List Fr) (st : St) : Option St :=
  match boxSlots a.toks st.heap with
  | none => none
  | some bs =>
    let slots := (a.live.map fun p => (p.2, get st.env p.1)) ++ bs
    match fitB (a.toks.map (·.1) ++ stk.flatMap fun fr => envToks fr.env) [] slots with
    | false => none
    | true => match canonL slots (blank st.heap) with
      | none => none
      | some (vs, h, n) => match rebuild a.toks st.heap h (vs.drop a.live.length) with
        | none => none
        | some hs => match nodupB ((n ++ hs).map (·.1)) with
          | true => some { env := (a.live.map (·.1)).zip (vs.take a.live.length), heap := n ++ hs, salt := st.salt }
          | false => none

def tokBase (salt d : Nat) : Nat := (salt * 4096 + d) * 16

/-- Operations that make tokens of their own. -/
def makes : Op → Bool
  | .alloc _ => true
  | .box _ _ => true
  | .buildSlice _ _ _ => true
  | .makeSlice _ _ _ => true
  | .convert _ dst _ => (eltSz C dst).isSome
  | .call ⟨.builtin .append, _, _⟩ => true
  | _ => false

/-- Is no token of this place named yet? -/
def freshAt (stk : List Fr) (st : St) (tok : Nat) : Bool :=
  (envToks st.env).all (fun T => Nat.blt T tok || Nat.ble (tok + 16) T) && ((heapToks st.heap).all (fun T => Nat.blt T tok || Nat.ble (tok + 16) T) &&
    stk.all fun fr => (envToks fr.env).all fun T => Nat.blt T tok || Nat.ble (tok + 16) T)

def known (c : Operand) (b : Bool) (st : St) : St :=
  match c with
  | .tmp t => { st with env := put st.env t (.bool b) }
  | _ => st

structure Sm where
  callF : (i : Nat) → den (tyL (C.pts i)) → Option (den (tyL (C.rts i)))
  stage : (i : Nat) → List Fr → Nat → Path → St → Option (den (tyL (C.rts i)))

def parEnv : Nat → List AV → Env
  | _, [] => []
  | i, v :: vs => (i, v) :: parEnv (i + 1) vs

def hputs (h : Heap) : Heap → Heap
  | [] => h
  | (t, b) :: n => hputs (hput h t b) n

def putO (e : Env) : Option Nat → AV → Env
  | some d, v => put e d v
  | none, _ => e

def tupOf : List Ty → List AV → AV
  | [_], [v] => v
  | _, vs => .tup vs

section
variable {C} (s : Sm C) (inst : Nat)

/-- What a call that waits still looks at. -/
def pickE : Option Ann → Env → Env
  | none, e => e
  | some a, e => a.live.map fun p => (p.1, get e p.1)

/-- One operation; 'K' is what comes behind it. 'stk', 'path', 'i' and 'rest' tell where it stands: a call that is gone into comes back there. -/
def doOp (stk : List Fr) (f : Nat) (path : Path) (i : Nat) (rest : List Nat) (o : Oper) (K : St → Option (den (tyL (C.rts inst)))) (st : St) : Option (den (tyL (C.rts inst))) :=
  let tok := tokBase st.salt (o.dst.getD 0)
  match o.op with
  | .call ⟨.value fo, args, _⟩ =>
    match ev st.env fo with
    | .func g first caps =>
      let vs := first ++ args.toList.map (ev st.env) ++ caps
      match C.fn g with
      | none => none
      | some gfn => match C.disp inst g vs with
        | .spec j => match Nat.beq (C.fid j) g, toDenL st.heap (C.pts j) vs with
          | true, some x => (s.callF j x).bind fun r =>
            match hasOwn (tyL (C.rts j)), o.dst with
            | true, some _ => match freshAt stk st tok, impL tok (C.rts j) r 0 with
              | true, (rs, hn, n) => match Nat.ble n 16 with
                | true => K { st with env := putO st.env o.dst (tupOf (C.rts j) rs), heap := hputs (shown (hasSl (tyL (C.rts j))) (toksL vs) st.heap) hn }
                | false => none
              | false, _ => none
            | _, _ => K { st with env := putO st.env o.dst (tupOf (C.rts j) (ofDenL (C.rts j) r)), heap := shown (hasSl (tyL (C.rts j))) (toksL vs) st.heap }
          | _, _ => none
        | .inl => match Nat.ble vs.length gfn.ntmps with
          | true => s.stage inst ({ f := f, path := path, op := i, rest := rest, env := pickE (C.ann inst f ((i + 1000000) :: path)) st.env, salt := st.salt } :: stk) g [] { env := parEnv 0 vs, heap := st.heap, salt := st.salt * 4096 + o.dst.getD 0 + 1 }
          | false => none
        | .no => none
    | _ => none
  | op => match plainOp C st.env st.heap tok op, !makes C op || (o.dst.isSome && freshAt stk st tok) with
    | .no, _ => none
    | _, false => none
    | .ok c b v1 v2 h, true =>
      cond c (cond b (K { st with env := putO st.env o.dst v1, heap := h }) (K { st with env := putO st.env o.dst v2, heap := h })) none

/-- The operations of a region, in this order. -/
def runOps (stk : List Fr) (f ntmps : Nat) (path : Path) (ops : Array Oper) (K : St → Option (den (tyL (C.rts inst)))) : List Nat → St → Option (den (tyL (C.rts inst)))
  | [], st => K st
  | i :: rest, st =>
    match ops[i]? with
    | none => none
    | some o =>
      match (match o.dst with
        | none => true
        | some d => Nat.blt d ntmps) with
      | false => none
      | true => match o.guard with
        | none => doOp s inst stk f path i rest o (fun st => runOps stk f ntmps path ops K rest st) st
        | some (j, want) => match (ops[j]?).bind (·.dst) with
          | none => none
          | some d => match get st.env d with
            | .bool g => match want with
              | true => cond g (doOp s inst stk f path i rest o (fun st => runOps stk f ntmps path ops K rest st) { st with env := put st.env d (.bool true) })
                  (runOps stk f ntmps path ops K rest { st with env := putO (put st.env d (.bool false)) o.dst (.cst undef) })
              | false => cond g (runOps stk f ntmps path ops K rest { st with env := putO (put st.env d (.bool true)) o.dst (.cst undef) })
                  (doOp s inst stk f path i rest o (fun st => runOps stk f ntmps path ops K rest st) { st with env := put st.env d (.bool false) })
            | .cst v => match v with
              | .bool _ => none
              | _ => runOps stk f ntmps path ops K rest { st with env := putO st.env o.dst (.cst undef) }
            | _ => none

/-- What an operation looks at. -/
def reads : Op → List Operand
  | .move x => [x]
  | .assign x => [x]
  | .pick c a b => [c, a, b]
  | .load _ p => [p]
  | .nilCheck x => [x]
  | .binOp _ _ x y _ => [x, y]
  | .unOp _ _ x => [x]
  | .convert _ _ x => [x]
  | .slice _ x lo hi mx => x :: (lo.toList ++ hi.toList ++ mx.toList)
  | .fieldAddr _ x _ => [x]
  | .field _ x _ => [x]
  | .indexAddr _ x i => [x, i]
  | .index _ x i => [x, i]
  | .extract x _ => [x]
  | .build _ ps => ps.toList.map (·.2)
  | .call ⟨.value fo, args, _⟩ => fo :: args.toList
  | .call ⟨_, args, _⟩ => args.toList
  | _ => []

/-- Operations that turn nothing and call nothing. -/
def calm : Op → Bool
  | .move _ => true
  | .assign _ => true
  | .pick _ _ _ => true
  | .load _ _ => true
  | .nilCheck _ => true
  | .binOp _ _ _ _ _ => true
  | .unOp _ _ _ => true
  | .convert _ _ _ => true
  | .slice _ _ _ _ _ => true
  | .fieldAddr _ _ _ => true
  | .field _ _ _ => true
  | .indexAddr _ _ _ => true
  | .index _ _ _ => true
  | .extract _ _ => true
  | .build _ _ => true
  | .call ⟨.builtin .len, _, _⟩ => true
  | .call ⟨.builtin .max, _, _⟩ => true
  | .call ⟨.builtin .min, _, _⟩ => true
  | _ => false

/-- An operation that leaves the heap as it is. -/
def calmAt (o : Oper) (st : St) : Bool :=
  match o.op with
  | .call ⟨.value fo, args, _⟩ => match ev st.env fo with
    | .func g first caps => match C.disp inst g (first ++ args.toList.map (ev st.env) ++ caps) with
      | .spec j => (!hasOwn (tyL (C.rts j)) || o.dst.isNone) && (!hasSl (tyL (C.rts j)) || (toksL (first ++ args.toList.map (ev st.env) ++ caps)).isEmpty)
      | _ => false
    | _ => false
  | op => calm op && !makes C op

/-- The operations of a region that may go in any order. -/
def runFree (stk : List Fr) (f ntmps : Nat) (path : Path) (ops : Array Oper) (K : St → Option (den (tyL (C.rts inst)))) : List Nat → St → Option (den (tyL (C.rts inst)))
  | [], st => K st
  | i :: rest, st =>
    match ops[i]? with
    | none => none
    | some o =>
      match (match o.dst with
        | none => true
        | some d => Nat.blt d ntmps) && calmAt (C := C) inst o st with
      | false => none
      | true => match o.guard with
        | none => doOp s inst stk f path i rest o (fun st => runFree stk f ntmps path ops K rest st) st
        | some (j, want) => match (ops[j]?).bind (·.dst) with
          | none => none
          | some d => match get st.env d with
            | .bool g => match want with
              | true => cond g (doOp s inst stk f path i rest o (fun st => runFree stk f ntmps path ops K rest st) { st with env := put st.env d (.bool true) })
                  (runFree stk f ntmps path ops K rest { st with env := putO (put st.env d (.bool false)) o.dst (.cst undef) })
              | false => cond g (runFree stk f ntmps path ops K rest { st with env := putO (put st.env d (.bool true)) o.dst (.cst undef) })
                  (doOp s inst stk f path i rest o (fun st => runFree stk f ntmps path ops K rest st) { st with env := put st.env d (.bool false) })
            | .cst v => match v with
              | .bool _ => none
              | _ => runFree stk f ntmps path ops K rest { st with env := putO st.env o.dst (.cst undef) }
            | _ => none

def bindsOn (o : Oper) (j : Nat) : Bool := o.after.toList.any fun e => Region.binds .any e && Nat.beq e.on j

/-- So many of a region's first operations may go in any order; each behind them waits for all ahead of it. -/
def freeCount (ops : Array Oper) : Nat → Nat
  | 0 => 0
  | k + 1 => match ops[k]? with
    | none => 0
    | some o => match (List.range k).all (bindsOn o) with
      | true => freeCount ops k
      | false => k + 1

def dstAt (ops : Array Oper) (i : Nat) : Option Nat := (ops[i]?).bind (·.dst)

def seesFree (ops : Array Oper) (m : Nat) (o : Oper) (t : Nat) : Bool :=
  (List.range m).all fun j => match dstAt ops j with
    | some d => !Nat.beq d t || bindsOn o j
    | none => true

/-- Its edges go back; what it looks at is there; nothing else writes where it writes. -/
def freeOk (ops : Array Oper) (m i : Nat) : Bool :=
  match ops[i]? with
  | none => false
  | some o =>
    (o.after.toList.all fun e => !Region.binds .any e || Nat.blt e.on i) && (!Nat.blt i m || (
      ((reads o.op).all fun x => match x with
        | .tmp t => seesFree ops m o t
        | _ => true) &&
      ((match o.guard with
        | some (j, _) => Nat.blt j m && bindsOn o j
        | none => true) &&
      (match o.dst with
        | some d => (List.range m).all fun j => Nat.beq j i || (match dstAt ops j with
          | some d' => !Nat.beq d' d
          | none => true)
        | none => true))))

def drawOk (ops : Array Oper) (m : Nat) : Bool := Nat.ble m ops.size && ((List.range ops.size).all (freeOk ops m) && (List.range ops.size).all fun k => Nat.blt k m || (match ops[k]? with
  | some o => (List.range k).all (bindsOn o)
  | none => false))

def runRegion (stk : List Fr) (f ntmps : Nat) (p : Path) (ops : Array Oper) (draw : Bool) (K : St → Option (den (tyL (C.rts inst)))) (st : St) : Option (den (tyL (C.rts inst))) :=
  match draw with
  | false => runOps s inst stk f ntmps p ops K (List.range ops.size) st
  | true =>
    let m := freeCount ops ops.size
    match drawOk ops m with
    | true => runFree s inst stk f ntmps p ops (fun st => runOps s inst stk f ntmps p ops K (List.range' m (ops.size - m)) st) (List.range m) st
    | false => none

/-- A code, from a path on; 'K' is what comes behind it. -/
def run (stk : List Fr) (f ntmps : Nat) : Path → Code → St → (Ex → St → Option (den (tyL (C.rts inst)))) → Option (den (tyL (C.rts inst)))
  | p, c, st, K =>
    match C.ann inst f p with
    | some a => match canon a stk st with
      | some st => s.stage inst stk f p st
      | none => none
    | none => match c with
      | .skip => K .normal st
      | .label _ => K .normal st
      | .region _ ops draw => runRegion s inst stk f ntmps p ops draw (K .normal) st
      | .seq a b => run stk f ntmps (0 :: p) a st fun e st => match e with
        | .normal => run stk f ntmps (1 :: p) b st K
        | e => K e st
      | .cond c a b => match ev st.env c with
        | .bool v => cond v (run stk f ntmps (0 :: p) a (known c true st) K) (run stk f ntmps (1 :: p) b (known c false st) K)
        | _ => none
      | .block id c => run stk f ntmps (0 :: p) c st fun e st => match e with
        | .exit j => match Nat.beq j id with
          | true => K .normal st
          | false => K (.exit j) st
        | e => K e st
      | .loop _ => none
      | .scope c => run stk f ntmps (0 :: p) c st fun e st => match e with
        | .goto l => match findLabel c l with
          | some _ => match C.ann inst f ((l + 2) :: p) with
            | some a => match canon a stk st with
              | some st => s.stage inst stk f ((l + 2) :: p) st
              | none => none
            | none => none
          | none => K (.goto l) st
        | e => K e st
      | .exit id => K (.exit id) st
      | .goto l => K (.goto l) st
      | .ret => K .ret st
      | _ => none

/-- The code at a path. -/
def codeAt (c : Code) : Path → Option Code
  | [] => some c
  | d :: p => match codeAt c p with
    | none => none
    | some x => match x, d with
      | .seq a _, 0 => some a
      | .seq _ b, 1 => some b
      | .cond _ a _, 0 => some a
      | .cond _ _ b, 1 => some b
      | .block _ b, 0 => some b
      | .loop b, 0 => some b
      | .scope b, 0 => some b
      | .scope b, l + 2 => findLabel b l
      | _, _ => none

/-- What comes behind a path. -/
def kont (stk : List Fr) (f ntmps : Nat) (body : Code) (R : St → Option (den (tyL (C.rts inst)))) : Path → Ex → St → Option (den (tyL (C.rts inst)))
  | [], e, st => match e with
    | .normal => R st
    | .ret => R st
    | _ => none
  | d :: p, e, st => match codeAt body p with
    | none => none
    | some x => match x, d with
      | .seq _ b, 0 => match e with
        | .normal => run s inst stk f ntmps (1 :: p) b st (kont stk f ntmps body R p)
        | e => kont stk f ntmps body R p e st
      | .seq _ _, 1 => kont stk f ntmps body R p e st
      | .cond _ _ _, 0 => kont stk f ntmps body R p e st
      | .cond _ _ _, 1 => kont stk f ntmps body R p e st
      | .block id _, 0 => match e with
        | .exit j => match Nat.beq j id with
          | true => kont stk f ntmps body R p .normal st
          | false => kont stk f ntmps body R p (.exit j) st
        | e => kont stk f ntmps body R p e st
      | .loop _, 0 => match e with
        | .normal => match C.ann inst f p with
          | some a => match canon a stk st with
            | some st => s.stage inst stk f p st
            | none => none
          | none => none
        | e => kont stk f ntmps body R p e st
      | .scope b, _ => match e with
        | .goto l => match findLabel b l with
          | some _ => match C.ann inst f ((l + 2) :: p) with
            | some a => match canon a stk st with
              | some st => s.stage inst stk f ((l + 2) :: p) st
              | none => none
            | none => none
          | none => kont stk f ntmps body R p (.goto l) st
        | e => kont stk f ntmps body R p e st
      | _, _ => none

def resultsOf (rs : List ResultVar) (st : St) : Option (List AV) :=
  match rs with
  | [] => some []
  | .tmp t :: rs => match resultsOf rs st with
    | some vs => some (get st.env t :: vs)
    | none => none
  | .cell a t :: rs => match C.ti t with
    | some ti => match loadOp ti (get st.env a) st.heap, resultsOf rs st with
      | .ok true true v _ _, some vs => some (v :: vs)
      | _, _ => none
    | none => none

/-- Which tokens a result gives away, and which it only shows. -/
def givesC (h : Heap) : Ty → List AV → Option (List Nat × List Nat × List AV)
  | .unit, cs => some ([], [], cs)
  | .pair a b, cs => match givesC h a cs with
    | some (g, s, cs) => match givesC h b cs with
      | some (g', s', cs) => some (g ++ g', s ++ s', cs)
      | none => none
    | none => none
  | .one t, cs => givesC h t cs
  | .own t, c :: cs => match c with
    | .nilsl => some ([], [], cs)
    | .who tok _ => match hget h tok with
      | some (.arr _ _) => some ([tok], [], cs)
      | _ => none
    | _ => none
  | _, c :: cs => some ([], toks c, cs)
  | _, [] => none

def givesL (h : Heap) : List Ty → List AV → Option (List Nat × List Nat)
  | [], [] => some ([], [])
  | t :: ts, v :: vs => match givesC h t (cells v), givesL h ts vs with
    | some (g, s, []), some (g', s') => some (g ++ g', s ++ s')
    | _, _ => none
  | _, _ => none

/-- The end of the call itself. -/
def finish (rs : List ResultVar) (st : St) : Option (den (tyL (C.rts inst))) :=
  match resultsOf (C := C) rs st with
  | none => none
  | some vs => match (match (C.rts inst).any hasOwn with
      | false => true
      | true => match givesL st.heap (C.rts inst) vs with
        | some (g, sh) => nodupB g && g.all fun t => !sh.elem t
        | none => false) with
    | true => toDenL st.heap (C.rts inst) vs
    | false => none

def oneOf : List AV → AV
  | [v] => v
  | vs => .tup vs

/-- The return out of a call that was gone into. -/
def retTo : List Fr → List ResultVar → St → Option (den (tyL (C.rts inst)))
  | [], rs, st => finish inst rs st
  | fr :: stk, rs, st => match resultsOf (C := C) rs st with
    | none => none
    | some vs => match C.fn fr.f with
      | none => none
      | some fn => match fn.body with
        | none => none
        | some body => match codeAt body fr.path with
          | some (.region _ ops _) => match ops[fr.op]? with
            | some o => runOps s inst stk fr.f fn.ntmps fr.path ops (fun st => kont s inst stk fr.f fn.ntmps body (retTo stk fn.results.toList) fr.path .normal st) fr.rest
                { env := putO fr.env o.dst (oneOf vs), heap := st.heap, salt := fr.salt }
            | none => none
          | _ => none

/-- One stop's work, up to the next stops. -/
def stageStep (stk : List Fr) (f : Nat) (p : Path) (st : St) : Option (den (tyL (C.rts inst))) :=
  match C.fn f with
  | none => none
  | some fn => match fn.body with
    | none => none
    | some body =>
      let R := retTo s inst stk fn.results.toList
      let K := kont s inst stk f fn.ntmps body R
      match codeAt body p with
      | none => none
      | some c => match c with
        | .skip => K p .normal st
        | .label _ => K p .normal st
        | .region _ ops draw => runRegion s inst stk f fn.ntmps p ops draw (K p .normal) st
        | .seq a b => run s inst stk f fn.ntmps (0 :: p) a st (K (0 :: p))
        | .cond c a b => match ev st.env c with
          | .bool v => cond v (run s inst stk f fn.ntmps (0 :: p) a (known c true st) (K p)) (run s inst stk f fn.ntmps (1 :: p) b (known c false st) (K p))
          | _ => none
        | .block id c => run s inst stk f fn.ntmps (0 :: p) c st (K (0 :: p))
        | .loop c => run s inst stk f fn.ntmps (0 :: p) c st (K (0 :: p))
        | .scope c => run s inst stk f fn.ntmps (0 :: p) c st (K (0 :: p))
        | .exit id => K p (.exit id) st
        | .goto l => K p (.goto l) st
        | .ret => K p .ret st
        | _ => none

end

def sem : Nat → Sm C
  | 0 => { callF := fun _ _ => none, stage := fun _ _ _ _ _ => none }
  | k + 1 => {
      callF := fun i x => match C.ext i with
        | some g => g x
        | none => stageStep (sem k) i [] (C.fid i) [] { env := parEnv 0 (ofDenL (C.pts i) x), heap := [], salt := 0 }
      stage := fun i stk f p st => stageStep (sem k) i stk f p st }

abbrev callF (k : Nat) := (sem C k).callF
abbrev stage (k : Nat) := (sem C k).stage

end Go.Proofs.YtcdcijhfjiahkaaDoorR.K
