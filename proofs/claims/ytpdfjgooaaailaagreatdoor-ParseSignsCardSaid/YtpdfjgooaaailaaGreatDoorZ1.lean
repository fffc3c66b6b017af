/- Part 1 of the proof: the machine, the tables and the pure laws that the last text joins. -/
import Derived.Calls
import Derived.KernelRfl
import Derived.Below
import Derived.RangeFuncRecord
import Derived.Laws.Slices
import Derived.Lib.SliceRun
import Derived.Laws.Strings
import Derived.Laws.Concat
import Derived.Laws.BytesArg
import Derived.Laws.StructEq
import Derived.Lib.ConvBytes
import Derived.Deep.MidRow
import Derived.ArgAppend
import Derived.Laws.MakeOwn
import Derived.Laws.Rows
set_option linter.unusedVariables false
set_option linter.unusedSimpArgs false
namespace Go.Proofs.YtpdfjgooaaailaaGreatDoor.K
open Go
inductive Ty where
  | unit | bool | int (k : IntKind) | str | sl (t : Ty) | own (t : Ty) | pair (a b : Ty) | one (t : Ty) | fn (f : Nat)
  deriving DecidableEq
@[reducible] def den : Ty → Type
  | .unit => Unit
  | .bool => Bool
  | .int _ => Int
  | .str => List UInt8
  | .sl t => List (den t)
  | .own t => List (den t)
  | .pair a b => den a × den b
  | .one t => den t
  | .fn _ => Unit
def dfl : (t : Ty) → den t
  | .unit => ()
  | .bool => false
  | .int _ => (0 : Int)
  | .str => ([] : List UInt8)
  | .sl t => ([] : List (den t))
  | .own t => ([] : List (den t))
  | .pair a b => (dfl a, dfl b)
  | .one t => dfl t
  | .fn _ => ()
def csz : Ty → Nat
  | .unit => 0
  | .pair a b => csz a + csz b
  | .one t => csz t
  | _ => 1
def isAgg : Ty → Bool
  | .pair _ _ => true
  | .one _ => true
  | _ => false
def tyL : List Ty → Ty
  | [] => .unit
  | [t] => t
  | t :: ts => .pair t (tyL ts)
inductive AV where
  | undef
  | bool (b : Bool)
  | int (k : IntKind) (n : Int)
  | str (s : List UInt8)
  | sl (t : Ty) (l : List (den t)) (full : Bool)
  | nilsl
  | who (tok : Nat) (full : Bool)
  | ref (tok : Nat) (off len : Nat) (full : Bool)
  | ptr (tok off : Nat)
  | eptr (tok i off : Nat)
  | rptr (t : Ty) (x : den t) (off : Nat)
  | aptr (tok off n : Nat) (t : Ty) (i : Nat)
  | func (f : Nat) (first caps : List AV)
  | agg (cs : List AV)
  | tup (vs : List AV)
  | cst (v : Value)
  | yld
  | husk (t : Ty) (n : Nat)
  | maybe
def yTok : Nat := 1125899906842624
def ioTok : Nat := 2251799813685248
inductive Blk where
  | arr (t : Ty) (l : List (den t))
  | fro (t : Ty) (l : List (den t))
  | box (cs : List AV)
abbrev Env := List (Nat × AV)
abbrev Heap := List (Nat × Blk)
def get : Env → Nat → AV
  | [], _ => .undef
  | (u, v) :: e, t => match Nat.beq u t with
    | true => v
    | false => get e t
def put : Env → Nat → AV → Env
  | [], t, v => [(t, v)]
  | (u, x) :: e, t, v => match Nat.beq u t with
    | true => (u, v) :: e
    | false => (u, x) :: put e t v
def hget : Heap → Nat → Option Blk
  | [], _ => none
  | (u, v) :: e, t => match Nat.beq u t with
    | true => some v
    | false => hget e t
def hput : Heap → Nat → Blk → Heap
  | [], t, v => [(t, v)]
  | (u, x) :: e, t, v => match Nat.beq u t with
    | true => (u, v) :: e
    | false => (u, x) :: hput e t v
def nodupB : List Nat → Bool
  | [] => true
  | x :: xs => !xs.elem x && nodupB xs
def hdel : Heap → Nat → Heap
  | [], _ => []
  | (u, x) :: e, t => match Nat.beq u t with
    | true => hdel e t
    | false => (u, x) :: hdel e t
def hdels : Heap → List Nat → Heap
  | h, [] => h
  | h, t :: ts => hdels (hdel h t) ts
def cellsOf : (t : Ty) → den t → List AV
  | .unit, _ => []
  | .bool, b => [.bool b]
  | .int k, n => [.int k n]
  | .str, s => [.str s]
  | .sl t, l => [.sl t l false]
  | .own t, l => [.sl t l false]
  | .pair a b, x => cellsOf a x.1 ++ cellsOf b x.2
  | .one t, x => cellsOf t x
  | .fn f, _ => [.func f [] []]
def ofDen : (t : Ty) → den t → AV
  | .unit, _ => .undef
  | .bool, b => .bool b
  | .int k, n => .int k n
  | .str, s => .str s
  | .sl t, l => .sl t l false
  | .own t, l => .sl t l false
  | .pair a b, x => .agg (cellsOf (.pair a b) x)
  | .one t, x => .agg (cellsOf t x)
  | .fn f, _ => .func f [] []
def ofCell : (t : Ty) → AV → Option (den t)
  | .bool, .bool b => some b
  | .int k, .int k' n => if k = k' then some n else none
  | .str, .str s => some s
  | .sl t, .sl t' l _ => if h : t' = t then some (h ▸ l) else none
  | .sl t, .nilsl => some ([] : List (den t))
  | .own t, .sl t' l _ => if h : t' = t then some (h ▸ l) else none
  | .own t, .nilsl => some ([] : List (den t))
  | .fn f, .func f' [] [] => match Nat.beq f f' with
    | true => some ()
    | false => none
  | _, _ => none
def ofCells : (t : Ty) → List AV → Option (den t × List AV)
  | .unit, cs => some ((), cs)
  | .pair a b, cs => match ofCells a cs with
    | some (x, cs) => match ofCells b cs with
      | some (y, cs) => some ((x, y), cs)
      | none => none
    | none => none
  | .one t, cs => ofCells t cs
  | t, c :: cs => match ofCell t c with
    | some x => some (x, cs)
    | none => none
  | _, [] => none
def deep (H : Heap) : AV → AV
  | .who tok _ => match hget H tok with
    | some (.arr t l) => .sl t l false
    | some (.fro t l) => .sl t l false
    | _ => .undef
  | .ref tok off len _ => match hget H tok with
    | some (.arr t l) => .sl t ((l.drop off).take len) false
    | some (.fro t l) => .sl t ((l.drop off).take len) false
    | _ => .undef
  | v => v
def cells : AV → List AV
  | .agg cs => cs
  | v => [v]
def toDen (H : Heap) (t : Ty) (v : AV) : Option (den t) :=
  match isAgg t, v with
  | true, .agg cs => match ofCells t (cs.map (deep H)) with
    | some (x, []) => some x
    | _ => none
  | false, v => match t with
    | .unit => none
    | t => ofCell t (deep H v)
  | _, _ => none
def toDenL (H : Heap) : (ts : List Ty) → List AV → Option (den (tyL ts))
  | [], [] => some ()
  | [t], [v] => toDen H t v
  | t :: u :: ts, v :: vs => match toDen H t v with
    | some x => match toDenL H (u :: ts) vs with
      | some y => some (x, y)
      | none => none
    | none => none
  | _, _ => none
def ofDenL : (ts : List Ty) → den (tyL ts) → List AV
  | [], _ => []
  | [t], x => [ofDen t x]
  | t :: u :: ts, x => ofDen t x.1 :: ofDenL (u :: ts) x.2
def hasSl : Ty → Bool
  | .sl _ => true
  | .own _ => true
  | .pair a b => hasSl a || hasSl b
  | .one t => hasSl t
  | _ => false
def hasOwn : Ty → Bool
  | .own _ => true
  | .pair a b => hasOwn a || hasOwn b
  | .one t => hasOwn t
  | _ => false
def impCells (base : Nat) : (t : Ty) → den t → Nat → List AV × Heap × Nat
  | .own t, l, j => ([.who (base + j) false], [(base + j, .arr t l)], j + 1)
  | .pair a b, x, j => match impCells base a x.1 j with
    | (c1, h1, j) => match impCells base b x.2 j with
      | (c2, h2, j) => (c1 ++ c2, h1 ++ h2, j)
  | .one t, x, j => impCells base t x j
  | t, x, j => (cellsOf t x, [], j)
def imp (base : Nat) (t : Ty) (x : den t) (j : Nat) : AV × Heap × Nat :=
  match hasOwn t with
  | false => (ofDen t x, [], j)
  | true => match isAgg t, impCells base t x j with
    | true, (cs, h, j) => (.agg cs, h, j)
    | false, (c :: _, h, j) => (c, h, j)
    | false, ([], h, j) => (.undef, h, j)
def impL (base : Nat) : (ts : List Ty) → den (tyL ts) → Nat → List AV × Heap × Nat
  | [], _, j => ([], [], j)
  | [t], x, j => match imp base t x j with
    | (v, h, j) => ([v], h, j)
  | t :: u :: ts, x, j => match imp base t x.1 j with
    | (v, h1, j) => match impL base (u :: ts) x.2 j with
      | (vs, h2, j) => (v :: vs, h1 ++ h2, j)
mutual
def toks : AV → List Nat
  | .who t _ => [t]
  | .ref t _ _ _ => [t]
  | .ptr t _ => [t]
  | .eptr t _ _ => [t]
  | .aptr t _ _ _ _ => [t]
  | .func _ a b => toksL a ++ toksL b
  | .agg cs => toksL cs
  | .tup vs => toksL vs
  | .yld => [yTok]
  | _ => []
def toksL : List AV → List Nat
  | [] => []
  | v :: vs => toks v ++ toksL vs
end
def blkToks : Blk → List Nat
  | .box cs => toksL cs
  | _ => []
def freeze (ts : List Nat) : Heap → Heap
  | [] => []
  | (u, b) :: h => (u, match b with
    | .arr t l => (match ts.elem u with
      | true => .fro t l
      | false => .arr t l)
    | b => b) :: freeze ts h
def shown : Bool → List Nat → Heap → Heap
  | true, ts, h => freeze ts h
  | false, _, h => h
inductive Sh where
  | bool | int (k : IntKind) | str | sl (e : Nat) | ptr (e : Nat) | st (fs : List (Nat × Nat)) | arr (n e : Nat) | other
  deriving DecidableEq
def shOf : TypeDesc → Sh
  | .bool => .bool
  | .int k => .int k
  | .string => .str
  | .slice e => .sl e
  | .pointer e => .ptr e
  | .struct fs => .st (fs.toList.map fun f => (f.offset, f.type))
  | .array n e => .arr n e
  | _ => .other
structure TI where
  sh : Sh
  size : Nat
  bytes : Nat
  zero : List AV
  ty : Option Ty
  fl : List (Nat × Nat × Bool)
  eq : Bool
inductive Disp where
  | no
  | inl
  | spec (i : Nat)
inductive Shape where
  | keep
  | im (t : Ty)
  | own (tok : Nat) (t : Ty)
structure Ann where
  live : List (Nat × Shape)
  toks : List (Nat × List Shape)
  all : Bool := false
abbrev Path := List Nat
inductive Ex where
  | normal
  | exit (id : Nat)
  | ret
  | goto (l : Nat)
inductive LSt where
  | ready
  | busy
  | done (e : Ex)
structure Fr where
  f : Nat
  path : Path
  op : Nat
  rest : List Nat
  env : Env
  salt : Nat
  ls : LSt := .ready
structure St where
  env : Env
  heap : Heap
  salt : Nat
structure Ctx where
  ti : Nat → Option TI
  fn : Nat → Option Func
  disp : Nat → Nat → List AV → Disp
  fid : Nat → Nat
  pts : Nat → List Ty
  rts : Nat → List Ty
  ext : (i : Nat) → Option (den (tyL (pts i)) → Option (den (tyL (rts i))))
  ann : Nat → Nat → Path → Option Ann
  inv : World → Prop
  rd : Nat → List Bool := fun _ => []
  io : Nat → Bool := fun _ => false
variable (C : Ctx)
inductive OR where
  | no
  | ok (c b : Bool) (v1 v2 : AV) (h : Heap)
def OR.v (v : AV) (h : Heap) : OR := .ok true true v .undef h
def OR.cv (c : Bool) (v : AV) (h : Heap) : OR := .ok c true v .undef h
def avOf : Value → AV
  | .bool b => .bool b
  | .int k n => .int k n
  | .string s => .str s.data.toList
  | .slice none 0 0 => .nilsl
  | v => .cst v
def ev (e : Env) : Operand → AV
  | .tmp t => get e t
  | .const v => avOf v
  | .func f => .func f [] []
  | .global _ => .undef
def bitop (op : BinOp) (k : IntKind) (x y : Int) : Int :=
  let a := BitVec.ofInt k.bits x
  let b := BitVec.ofInt k.bits y
  match op with
  | .and => k.wrap (a &&& b).toNat
  | .or => k.wrap (a ||| b).toNat
  | .xor => k.wrap (a ^^^ b).toNat
  | _ => k.wrap (a &&& ~~~b).toNat
def cellEq : AV → AV → Option Bool
  | .bool a, .bool b => some (a == b)
  | .int k a, .int k' b => if k = k' then some (decide (a = b)) else none
  | .str a, .str b => some (decide (a = b))
  | _, _ => none
def cellsEq : List AV → List AV → Option Bool
  | [], [] => some true
  | [x], [y] => cellEq x y
  | x :: x' :: xs, y :: ys => match cellEq x y, cellsEq (x' :: xs) ys with
    | some a, some b => some (a && b)
    | _, _ => none
  | _, _ => none
def kindOf : AV → Nat
  | .bool _ => 1
  | .int _ _ => 2
  | .str _ => 3
  | _ => 0
def sameKinds : List AV → List AV → Bool
  | [], [] => true
  | a :: as, b :: bs => Nat.beq (kindOf a) (kindOf b) && sameKinds as bs
  | _, _ => false
def nilEq (op : BinOp) (t : Nat) (ne : Bool) (h : Heap) : OR :=
  match C.ti t with
  | some ti => match ti.sh with
    | .sl _ => match op with
      | .eql => .ok true ne (.bool false) .maybe h
      | .neq => .ok true ne (.bool true) .maybe h
      | _ => .no
    | _ => .no
  | none => .no
def binOp (op : BinOp) (t : Nat) (x y : AV) (h : Heap) : OR :=
  match x, y with
  | .int k a, .int k' b =>
    match op with
    | .shl => .cv (decide (0 ≤ b)) (.int k (k.wrap (a * 2 ^ min b.toNat k.bits))) h
    | .shr => .cv (decide (0 ≤ b)) (.int k (a.fdiv (2 ^ min b.toNat k.bits))) h
    | op =>
      if k = k' then
        match op with
        | .add => .v (.int k (k.wrap (a + b))) h
        | .sub => .v (.int k (k.wrap (a - b))) h
        | .mul => .v (.int k (k.wrap (a * b))) h
        | .quo => .cv (!decide (b = 0)) (.int k (k.wrap (a.tdiv b))) h
        | .rem => .cv (!decide (b = 0)) (.int k (a.tmod b)) h
        | .and => .v (.int k (bitop .and k a b)) h
        | .or => .v (.int k (bitop .or k a b)) h
        | .xor => .v (.int k (bitop .xor k a b)) h
        | .andNot => .v (.int k (bitop .andNot k a b)) h
        | .eql => .v (.bool (decide (a = b))) h
        | .neq => .v (.bool (!decide (a = b))) h
        | .lss => .v (.bool (decide (a < b))) h
        | .leq => .v (.bool (decide (a ≤ b))) h
        | .gtr => .v (.bool (decide (a > b))) h
        | .geq => .v (.bool (decide (a ≥ b))) h
        | _ => .no
      else .no
  | .str a, .str b =>
    match op with
    | .add => .cv (Nat.ble (a.length + b.length) 9223372036854775807) (.str (a ++ b)) h
    | .eql => .v (.bool (decide (a = b))) h
    | .neq => .v (.bool (!decide (a = b))) h
    | .lss => .v (.bool (Op.bytesLess a b)) h
    | .leq => .v (.bool (Op.bytesLess a b || decide (a = b))) h
    | .gtr => .v (.bool (!(Op.bytesLess a b || decide (a = b)))) h
    | .geq => .v (.bool (!Op.bytesLess a b)) h
    | _ => .no
  | .bool a, .bool b =>
    match C.ti t with
    | some ti => match ti.sh with
      | .bool => match op with
        | .eql => .v (.bool (a == b)) h
        | .neq => .v (.bool (!(a == b))) h
        | _ => .no
      | _ => .no
    | none => .no
  | .agg a, .agg b =>
    match C.ti t with
    | some ti => match ti.eq && sameKinds a ti.zero, cellsEq a b with
      | true, some c => match op with
        | .eql => .v (.bool c) h
        | .neq => .v (.bool (!c)) h
        | _ => .no
      | _, _ => .no
    | none => .no
  | .sl _ l _, .nilsl => nilEq C op t (decide (0 < l.length)) h
  | _, _ => .no
def unOp (op : UnOp) (x : AV) (h : Heap) : OR :=
  match op, x with
  | .not, .bool b => .v (.bool (!b)) h
  | .neg, .int k n => .v (.int k (k.wrap (0 - n))) h
  | .xor, .int k n => .v (.int k (bitop .xor k (if k.signed then -1 else k.max) n)) h
  | _, _ => .no
def bytesOf (l : List Int) : List UInt8 := l.map fun n => UInt8.ofNat n.toNat
def convert (src dst : Nat) (x : AV) (tok : Nat) (h : Heap) : OR :=
  match C.ti dst, C.ti src with
  | some ti, some ts => match ti.sh, x with
    | .int k, .int _ n => .v (.int k (k.wrap n)) h
    | .str, .str s => .v (.str s) h
    | .sl e, .str s => match C.ti e with
      | some te => match te.sh with
        | .int .u8 => .v (.who tok false) (hput h tok (.arr (.int .u8) (s.map fun b => (b.toNat : Int))))
        | _ => .no
      | none => .no
    | .str, x => match ts.sh with
      | .sl e => match C.ti e with
        | some te => match te.sh with
          | .int .u8 => match toDen h (.sl (.int .u8)) x with
            | some l => .v (.str (bytesOf l)) h
            | none => .no
          | _ => .no
        | none => .no
      | _ => .no
    | _, _ => .no
  | _, _ => .no
def natOf (v : AV) : Option Int :=
  match v with
  | .int _ n => some n
  | _ => none
def eltSz (t : Nat) : Option Nat :=
  match C.ti t with
  | some ti => match ti.sh with
    | .sl e => match C.ti e with
      | some te => some te.size
      | none => none
    | _ => none
  | none => none
def isStr (t : Nat) : Bool :=
  match C.ti t with
  | some ti => match ti.sh with
    | .str => true
    | _ => false
  | none => false
def avSz (x : AV) (h : Heap) : Option Nat :=
  match x with
  | .sl t _ _ => some (csz t)
  | .husk t _ => some (csz t)
  | .who tok _ => match hget h tok with
    | some (.arr t _) => some (csz t)
    | some (.fro t _) => some (csz t)
    | _ => none
  | .ref tok _ _ _ => match hget h tok with
    | some (.arr t _) => some (csz t)
    | some (.fro t _) => some (csz t)
    | _ => none
  | _ => none
def fitsTy (t : Nat) (x : AV) (h : Heap) : Bool :=
  match x with
  | .str _ => isStr C t
  | .nilsl => (eltSz C t).isSome
  | x => match eltSz C t, avSz x h with
    | some n, some m => Nat.beq n m
    | _, _ => false
def optI : Option AV → Option (Option Int)
  | none => some none
  | some v => match natOf v with
    | some n => some (some n)
    | none => none
def slChk (l u m : Option Int) (len : Nat) : Bool :=
  match m with
  | none => (match l, u with
    | none, none => true
    | some l, none => decide (0 ≤ l) && decide (l ≤ (len : Int))
    | none, some u => decide (0 ≤ u) && decide (u ≤ (len : Int))
    | some l, some u => decide (0 ≤ l) && (decide (l ≤ u) && decide (u ≤ (len : Int))))
  | some m => match u with
    | none => false
    | some u => match l with
      | none => decide (0 ≤ u) && (decide (u ≤ m) && decide (m ≤ (len : Int)))
      | some l => decide (0 ≤ l) && (decide (l ≤ u) && (decide (u ≤ m) && decide (m ≤ (len : Int))))
def slLo : Option Int → Nat
  | none => 0
  | some l => l.toNat
def slHi (u : Option Int) (len : Nat) : Nat :=
  match u with
  | none => len
  | some u => u.toNat
def cutL {α : Type} (l u : Option Int) (s : List α) : List α :=
  match l, u with
  | none, none => s
  | some l, none => s.drop l.toNat
  | none, some u => s.take u.toNat
  | some l, some u => (s.take u.toNat).drop l.toNat
def slEq (u m : Option Int) : Bool :=
  match m, u with
  | none, _ => true
  | some m, some u => decide (u = m)
  | some _, none => true
def slFull (f : Bool) (u m : Option Int) : Bool :=
  match m, u with
  | none, none => f
  | none, some _ => false
  | some _, _ => true
def lenH (tok : Nat) (h : Heap) : Option Nat :=
  match hget h tok with
  | some (.arr _ l) => some l.length
  | some (.fro _ l) => some l.length
  | _ => none
def sliceOp (x : AV) (l u m : Option Int) (h : Heap) : OR :=
  match x with
  | .str s => match m with
    | none => .cv (slChk l u none s.length) (.str (cutL l u s)) h
    | some _ => .no
  | .sl t s f => .ok (slChk l u m s.length) (slEq u m) (.sl t (cutL l u s) (slFull f u m)) (.sl t (cutL l u s) false) h
  | .nilsl => .cv (slChk l u m 0) .nilsl h
  | .who tok f => match lenH tok h with
    | some len => match l, u, m with
      | none, none, none => .v (.who tok f) h
      | l, u, m => .ok (slChk l u m len) (slEq u m) (.ref tok (slLo l) (slHi u len - slLo l) (slFull f u m)) (.ref tok (slLo l) (slHi u len - slLo l) false) h
    | none => .no
  | .ref tok off len f => .ok (slChk l u m len) (slEq u m) (.ref tok (off + slLo l) (slHi u len - slLo l) (slFull f u m)) (.ref tok (off + slLo l) (slHi u len - slLo l) false) h
  | _ => .no
def lenOf (x : AV) (h : Heap) : Option Int :=
  match x with
  | .who tok _ => match hget h tok with
    | some (.arr _ l) => some (l.length : Int)
    | some (.fro _ l) => some (l.length : Int)
    | _ => none
  | .str s => some (s.length : Int)
  | .sl _ l _ => some (l.length : Int)
  | .nilsl => some 0
  | .ref _ _ len _ => some (len : Int)
  | .husk _ n => some (n : Int)
  | _ => none
def part (cs : List AV) (off n : Nat) (agg : Bool) : AV :=
  match agg with
  | true => .agg ((cs.drop off).take n)
  | false => match cs.drop off with
    | c :: _ => c
    | [] => .undef
def TI.agg (ti : TI) : Bool := match ti.sh with
  | .st _ => true
  | .arr _ _ => true
  | _ => false
def solid : AV → Bool
  | .undef => false
  | .agg _ => false
  | .tup _ => false
  | .cst (.agg _) => false
  | .cst (.tuple _) => false
  | .yld => false
  | .husk _ _ => false
  | .maybe => false
  | _ => true
def fits (v : AV) (n : Nat) : Bool := Nat.beq (cells v).length n && (cells v).all solid
def flatTy : Ty → Bool
  | .bool => true
  | .int _ => true
  | .str => true
  | _ => false
def arrCells (t : Ty) : Nat → List AV → Option (List (den t))
  | 0, _ => some []
  | n + 1, c :: cs => match ofCell t c, arrCells t n cs with
    | some x, some l => some (x :: l)
    | _, _ => none
  | _ + 1, [] => none
def loadOp (ti : TI) (p : AV) (h : Heap) : OR :=
  match p with
  | .ptr tok off => match hget h tok with
    | some (.box cs) => match Nat.ble (off + ti.size) cs.length with
      | true => .v (part cs off ti.size ti.agg) h
      | false => .no
    | _ => .no
  | .eptr tok i off => match hget h tok with
    | some (.arr t l) => match Nat.ble (off + ti.size) (csz t) with
      | true => .v (part (cellsOf t (l.getD i (dfl t))) off ti.size ti.agg) h
      | false => .no
    | some (.fro t l) => match Nat.ble (off + ti.size) (csz t) with
      | true => .v (part (cellsOf t (l.getD i (dfl t))) off ti.size ti.agg) h
      | false => .no
    | _ => .no
  | .rptr t x off => match Nat.ble (off + ti.size) (csz t) with
    | true => .v (part (cellsOf t x) off ti.size ti.agg) h
    | false => .no
  | .aptr tok off n t i => match hget h tok with
    | some (.box cs) => match flatTy t && (Nat.beq ti.size 1 && !ti.agg), arrCells t n (cs.drop off) with
      | true, some l => .v (ofDen t (l.getD i (dfl t))) h
      | _, _ => .no
    | _ => .no
  | _ => .no
def setCells (cs : List AV) (off : Nat) (new : List AV) : List AV := cs.take off ++ new ++ cs.drop (off + new.length)
def storeOp (ti : TI) (p v : AV) (h : Heap) : Option Heap :=
  match fits v ti.size with
  | false => none
  | true => match p with
    | .ptr tok off => match hget h tok with
      | some (.box cs) => match Nat.ble (off + ti.size) cs.length with
        | true => some (hput h tok (.box (setCells cs off (cells v))))
        | false => none
      | _ => none
    | .eptr tok i off => match hget h tok with
      | some (.arr t l) => match Nat.ble (off + ti.size) (csz t) with
        | true => match ofCells t (setCells (cellsOf t (l.getD i (dfl t))) off ((cells v).map (deep h))) with
          | some (x, []) => match (toks v).elem tok with
            | false => some (hput (freeze (toks v) h) tok (.arr t (l.set i x)))
            | true => none
          | _ => none
        | false => none
      | _ => none
    | _ => none
def fieldOf (ti : TI) (f : Nat) : Option (Nat × Nat × Bool) := ti.fl[f]?
def fieldAddrOp (ti : TI) (p : AV) (f : Nat) (h : Heap) : OR :=
  match fieldOf ti f with
  | none => .no
  | some (o, _, _) => match p with
    | .ptr tok off => .v (.ptr tok (off + o)) h
    | .eptr tok i off => .v (.eptr tok i (off + o)) h
    | .rptr t x off => .v (.rptr t x (off + o)) h
    | _ => .no
def fieldOp (ti : TI) (x : AV) (f : Nat) (h : Heap) : OR :=
  match fieldOf ti f, x with
  | some (o, n, a), .agg cs => match Nat.ble (o + n) cs.length with
    | true => .v (part cs o n a) h
    | false => .no
  | _, _ => .no
def indexAddrOp (x i : AV) (h : Heap) : OR :=
  match natOf i with
  | none => .no
  | some i => match x with
    | .sl t l _ => .cv (decide (0 ≤ i) && decide (i < (l.length : Int))) (.rptr t (l.getD i.toNat (dfl t)) 0) h
    | .who tok _ => match lenOf (.who tok false) h with
      | some n => .cv (decide (0 ≤ i) && decide (i < n)) (.eptr tok i.toNat 0) h
      | none => .no
    | .ref tok off len _ => .cv (decide (0 ≤ i) && decide (i < (len : Int))) (.eptr tok (off + i.toNat) 0) h
    | _ => .no
def indexOp (x i : AV) (h : Heap) : OR :=
  match natOf i with
  | none => .no
  | some i => match x with
    | .str s => .cv (decide (0 ≤ i) && decide (i < (s.length : Int))) (.int .u8 ((s.getD i.toNat 0).toNat : Int)) h
    | _ => .no
def fillCells (ti : TI) : List (Nat × AV) → List AV → Option (List AV)
  | [], cs => some cs
  | (f, v) :: ps, cs => match fieldOf ti f with
    | some (o, n, _) => match fits v n, Nat.ble (o + n) cs.length with
      | true, true => fillCells ti ps (setCells cs o (cells v))
      | _, _ => none
    | none => none
def fillArr (sz : Nat) : List (Nat × AV) → List AV → Option (List AV)
  | [], cs => some cs
  | (f, v) :: ps, cs => match fits v sz, Nat.ble (f * sz + sz) cs.length with
    | true, true => fillArr sz ps (setCells cs (f * sz) (cells v))
    | _, _ => none
def elemsOf (h : Heap) (t : Ty) (ps : List (Nat × AV)) : (i n : Nat) → Option (List (den t))
  | _, 0 => some []
  | i, n + 1 => match (match ps.find? (fun p => Nat.beq p.1 i) with
      | some p => toDen h t p.2
      | none => some (dfl t)), elemsOf h t ps (i + 1) n with
    | some x, some xs => some (x :: xs)
    | _, _ => none
def elemTy (st : Nat) : Option (Nat × Ty × TI) :=
  match C.ti st with
  | some ti => match ti.sh with
    | .sl e => match C.ti e with
      | some te => match te.ty, Nat.ble 1 te.size && Nat.ble 1 te.bytes with
        | some t, true => some (e, t, te)
        | _, _ => none
      | none => none
    | _ => none
  | none => none
def arrTy (t : Nat) : Option (Nat × Ty) :=
  match C.ti t with
  | some ti => match ti.sh with
    | .arr n e => match C.ti e with
      | some te => match te.ty with
        | some ty => match flatTy ty with
          | true => some (n, ty)
          | false => none
        | none => none
      | none => none
    | _ => none
  | none => none
def arrAddrOp (t : Nat) (x i : AV) (h : Heap) : OR :=
  match arrTy C t, natOf i with
  | some (n, ty), some i => match x with
    | .ptr tok off => .cv (decide (0 ≤ i) && decide (i < (n : Int))) (.aptr tok off n ty i.toNat) h
    | _ => .no
  | _, _ => .no
def arrIndexOp (t : Nat) (x i : AV) (h : Heap) : OR :=
  match arrTy C t, natOf i with
  | some (n, ty), some i => match x with
    | .agg cs => match arrCells ty n cs with
      | some l => .cv (decide (0 ≤ i) && decide (i < (n : Int))) (ofDen ty (l.getD i.toNat (dfl ty))) h
      | none => .no
    | _ => .no
  | _, _ => .no
def newsOf (h : Heap) (t : Ty) (x : AV) : Option (List (den t)) :=
  match x with
  | .str s => match t with
    | .int .u8 => some (s.map fun b => (b.toNat : Int))
    | _ => none
  | x => toDen h (.sl t) x
def notInt (t : Nat) : Bool :=
  match C.ti t with
  | some ti => match ti.sh with
    | .sl _ => true
    | .str => true
    | _ => false
  | none => false
def appendOp (st : Nat) (s x : AV) (tok : Nat) (h : Heap) : OR :=
  match elemTy C st with
  | none => .no
  | some (_, t, te) => match newsOf h t x with
    | none => .no
    | some ys =>
      let room (n : Nat) : Bool := Nat.ble ((n + ys.length) * te.bytes) 140737488355328
      match s with
      | .nilsl => .cv (room 0) (.who tok false) (hput h tok (.arr t ys))
      | .sl t' l true => match (if e : t' = t then some (e ▸ l : List (den t)) else none) with
        | some l => .cv (room l.length && (decide (l.length = 0) || decide (0 < ys.length))) (.who tok false) (hput h tok (.arr t (l ++ ys)))
        | none => .no
      | .who tk full => match hget h tk with
        | some (.arr t' l) => match (if e : t' = t then some (e ▸ l : List (den t)) else none) with
          | some l => .cv (room l.length) (.who tok false) (hput (hdel h tk) tok (.arr t (l ++ ys)))
          | none => .no
        | some (.fro t' l) => match full, (if e : t' = t then some (e ▸ l : List (den t)) else none) with
          | true, some l => .cv (room l.length && (decide (l.length = 0) || decide (0 < ys.length))) (.who tok false) (hput h tok (.arr t (l ++ ys)))
          | _, _ => .no
        | _ => .no
      | .ref tk off len full => match hget h tk with
        | some (.arr t' l) => match (if e : t' = t then some (e ▸ l : List (den t)) else none) with
          | some l => match full with
            | false => match Nat.beq off 0 with
              | true => .cv (room len) (.who tok false) (hput (hdel h tk) tok (.arr t (l.take len ++ ys)))
              | false => .no
            | true => .cv (room len && (decide (len = 0) || decide (0 < ys.length))) (.who tok false) (hput h tok (.arr t ((l.drop off).take len ++ ys)))
          | none => .no
        | some (.fro t' l) => match full, (if e : t' = t then some (e ▸ l : List (den t)) else none) with
          | true, some l => .cv (room len && (decide (len = 0) || decide (0 < ys.length))) (.who tok false) (hput h tok (.arr t ((l.drop off).take len ++ ys)))
          | _, _ => .no
        | _ => .no
      | _ => .no
def maxmin (mx : Bool) : AV → AV → Option AV
  | .int k x, .int k' y => if k = k' then some (.int k (match mx with
      | true => max x y
      | false => min x y)) else none
  | _, _ => none
def builtinOp (b : Builtin) (argTypes : List Nat) (args : List AV) (tok : Nat) (h : Heap) : OR :=
  match b, args with
  | .len, [x] => match argTypes with
    | t :: _ => match fitsTy C t x h, lenOf x h with
      | true, some n => .v (.int .i64 n) h
      | _, _ => .no
    | [] => .no
  | .max, [x, y] => match maxmin true x y with
    | some v => .v v h
    | none => .no
  | .min, [x, y] => match maxmin false x y with
    | some v => .v v h
    | none => .no
  | .append, [s, x] => match argTypes with
    | st :: tx :: _ => match notInt C tx with
      | true => appendOp C st s x tok h
      | false => .no
    | _ => .no
  | _, _ => .no
def extractOp (p : AV) (i : Nat) (h : Heap) : OR :=
  match p with
  | .tup vs => match vs[i]? with
    | some v => .v v h
    | none => .no
  | _ => .no
def plainOp (e : Env) (h : Heap) (tok : Nat) : Op → OR
  | .move x => .v (ev e x) h
  | .assign x => .v (ev e x) h
  | .pick c a b => match ev e c with
    | .bool c => .ok true c (ev e a) (ev e b) h
    | _ => .no
  | .alloc t => match C.ti t with
    | some ti => .v (.ptr tok 0) (hput h tok (.box ti.zero))
    | none => .no
  | .box t x => match C.ti t with
    | some ti => match fits (ev e x) ti.size with
      | true => .v (.ptr tok 0) (hput h tok (.box (cells (ev e x))))
      | false => .no
    | none => .no
  | .build t ps => match C.ti t with
    | some ti => match ti.sh, fillCells ti (ps.toList.map fun p => (p.1, ev e p.2)) ti.zero with
      | .st _, some cs => .v (.agg cs) h
      | .arr _ et, _ => match C.ti et with
        | some te => match fillArr te.size (ps.toList.map fun p => (p.1, ev e p.2)) ti.zero with
          | some cs => .v (.agg cs) h
          | none => .no
        | none => .no
      | _, _ => .no
    | none => .no
  | .buildSlice t n ps => match elemTy C t with
    | some (_, ty, te) => match elemsOf h ty (ps.toList.map fun p => (p.1, ev e p.2)) 0 n, Nat.ble (n * te.size) 16777216 && (nodupB (ps.toList.map (·.1)) && ps.toList.all fun p => Nat.blt p.1 n) with
      | some l, true => .v (.who tok true) (hput (freeze (toksL (ps.toList.map fun p => ev e p.2)) h) tok (.arr ty l))
      | _, _ => .no
    | none => .no
  | .load t p => match C.ti t with
    | some ti => loadOp ti (ev e p) h
    | none => .no
  | .store t p v => match C.ti t with
    | some ti => match storeOp ti (ev e p) (ev e v) h with
      | some h' => .v .undef h'
      | none => .no
    | none => .no
  | .nilCheck x => match ev e x with
    | .ptr t o => .v (.ptr t o) h
    | .eptr t i o => .v (.eptr t i o) h
    | .rptr t x o => .v (.rptr t x o) h
    | .func f a b => .v (.func f a b) h
    | _ => .no
  | .binOp op t x y _ => binOp C op t (ev e x) (ev e y) h
  | .unOp op _ x => unOp op (ev e x) h
  | .convert s d x => convert C s d (ev e x) tok h
  | .slice t x lo hi mx => match fitsTy C t (ev e x) h with
    | true => match optI (lo.map (ev e)), optI (hi.map (ev e)), optI (mx.map (ev e)) with
      | some l, some u, some m => sliceOp (ev e x) l u m h
      | _, _, _ => .no
    | false => .no
  | .fieldAddr t x f => match C.ti t with
    | some ti => fieldAddrOp ti (ev e x) f h
    | none => .no
  | .field t x f => match C.ti t with
    | some ti => fieldOp ti (ev e x) f h
    | none => .no
  | .indexAddr t x i => match fitsTy C t (ev e x) h with
    | true => indexAddrOp (ev e x) (ev e i) h
    | false => arrAddrOp C t (ev e x) (ev e i) h
  | .index t x i => match isStr C t with
    | true => indexOp (ev e x) (ev e i) h
    | false => arrIndexOp C t (ev e x) (ev e i) h
  | .extract t i => extractOp (ev e t) i h
  | .makeSlice t n c => match elemTy C t, ev e n, ev e c with
    | some (_, ty, te), .int _ n, .int _ c => match Nat.ble 1 te.bytes with
      | true => .cv (decide (0 ≤ n) && (decide (n ≤ c) && decide (te.bytes * c ≤ 281474976710656))) (.who tok false) (hput h tok (.arr ty (List.replicate n.toNat (dfl ty))))
      | false => .no
    | _, _, _ => .no
  | .makeFunc (.func f) first caps => .v (.func f (first.toList.map (ev e)) (caps.toList.map (ev e))) h
  | .call ⟨.builtin b, args, argTypes⟩ => builtinOp C b argTypes.toList (args.toList.map (ev e)) tok h
  | _ => .no
def tokBase (salt d : Nat) : Nat :=
  match salt with
  | 0 => d * 16
  | s + 1 => ((s + 1) * 4096 + d) * 16
def subSalt (salt d : Nat) : Nat :=
  match salt with
  | 0 => d + 1
  | s + 1 => (s + 1) * 4096 + d + 1
def nextSalt (salt : Nat) : Nat :=
  match salt with
  | 0 => 1152921504606846976
  | s + 1 => s + 1152921504606846977
def forceN {α : Type} (n : Nat) (k : Nat → α) : α :=
  match n with
  | 0 => k 0
  | m + 1 => k (m + 1)
theorem forceN_eq {α : Type} (n : Nat) (k : Nat → α) : forceN n k = k n := by cases n <;> rfl
def canonV (sh : Shape) (v : AV) (h : Heap) : Option (AV × Heap × Heap) :=
  match sh with
  | .keep => some (v, h, [])
  | .im t => match toDen h t v with
    | some y => some (ofDen t y, freeze (toks v) h, [])
    | none => none
  | .own T t => match v with
    | .nilsl => some (.who T false, h, [(T, .arr t [])])
    | .who tok _ => match hget h tok with
      | some (.arr t' l) => if e : t' = t then some (.who T false, hdel h tok, [(T, .arr t (e ▸ l : List (den t)))]) else none
      | _ => none
    | .ref tok off len _ => match hget h tok, Nat.beq off 0 with
      | some (.arr t' l), true => if e : t' = t then some (.who T false, hdel h tok, [(T, .arr t ((e ▸ l : List (den t)).take len))]) else none
      | _, _ => none
    | _ => none
def canonL : List (Shape × AV) → Heap → Option (List AV × Heap × Heap)
  | [], h => some ([], h, [])
  | (sh, v) :: vs, h => match canonV sh v h with
    | some (v, h, n) => match canonL vs h with
      | some (vs, h, ns) => some (v :: vs, h, n ++ ns)
      | none => none
    | none => none
def boxSlots : List (Nat × List Shape) → Heap → Option (List (Shape × AV))
  | [], _ => some []
  | (tok, shs) :: ts, h => match boxSlots ts h with
    | none => none
    | some l => match hget h tok with
      | some (.box cs) => match Nat.beq shs.length cs.length with
        | true => some (shs.zip cs ++ l)
        | false => none
      | some _ => match shs with
        | [] => some l
        | _ :: _ => none
      | none => none
def rebuild : List (Nat × List Shape) → (h0 hl : Heap) → List AV → Option Heap
  | [], _, _, _ => some []
  | (tok, shs) :: ts, h0, hl, vs => match hget h0 tok with
    | some (.box _) => match rebuild ts h0 hl (vs.drop shs.length) with
      | some hs => some ((tok, .box (vs.take shs.length)) :: hs)
      | none => none
    | _ => match hget hl tok, rebuild ts h0 hl vs with
      | some (.arr t l), some hs => some ((tok, .arr t l) :: hs)
      | some (.fro t l), some hs => some ((tok, .fro t l) :: hs)
      | _, _ => none
def blank : Heap → Heap
  | [] => []
  | (u, b) :: h => (u, match b with
    | .box cs => .box (cs.map fun _ => .undef)
    | b => b) :: blank h
def fitB (out : List Nat) : List (Shape × AV) → List (Shape × AV) → Bool
  | _, [] => true
  | pre, (sh, v) :: l => (match sh with
    | .own T _ => !out.elem T && ((pre ++ l).all fun q => !(toks q.2).elem T)
    | _ => true) && fitB out ((sh, v) :: pre) l
def envToks (e : Env) : List Nat := e.flatMap fun p => toks p.2
def heapToks (h : Heap) : List Nat := h.flatMap fun p => p.1 :: blkToks p.2
def canon (a : Ann) (stk : List Fr) (st : St) : Option St :=
  match a.all with
  | true => some { st with salt := nextSalt st.salt }
  | false => match boxSlots a.toks st.heap with
  | none => none
  | some bs =>
    let slots := (a.live.map fun p => (p.2, get st.env p.1)) ++ bs
    match fitB (ioTok :: (a.toks.map (·.1) ++ stk.flatMap fun fr => envToks fr.env)) [] slots with
    | false => none
    | true => match canonL slots (blank st.heap) with
      | none => none
      | some (vs, h, n) => match rebuild a.toks st.heap h (vs.drop a.live.length) with
        | none => none
        | some hs => match nodupB ((n ++ hs).map (·.1)) with
          | true => some { env := (a.live.map (·.1)).zip (vs.take a.live.length), heap := n ++ hs, salt := st.salt }
          | false => none
def makes : Op → Bool
  | .alloc _ => true
  | .box _ _ => true
  | .buildSlice _ _ _ => true
  | .makeSlice _ _ _ => true
  | .convert _ dst _ => (eltSz C dst).isSome
  | .call ⟨.builtin .append, _, _⟩ => true
  | _ => false
def freshAt (stk : List Fr) (st : St) (tok : Nat) : Bool :=
  (envToks st.env).all (fun T => Nat.blt T tok || Nat.ble (tok + 16) T) && ((heapToks st.heap).all (fun T => Nat.blt T tok || Nat.ble (tok + 16) T) &&
    ((Nat.blt ioTok tok || Nat.ble (tok + 16) ioTok) && stk.all fun fr => (envToks fr.env).all fun T => Nat.blt T tok || Nat.ble (tok + 16) T))
def known (c : Operand) (b : Bool) (st : St) : St :=
  match c with
  | .tmp t => { st with env := put st.env t (.bool b) }
  | _ => st
structure Sm where
  callF : (i : Nat) → den (tyL (C.pts i)) → Option (den (tyL (C.rts i)))
  stage : (i : Nat) → List Fr → Nat → Path → St → Option (den (tyL (C.rts i)))
def parEnv : Nat → List AV → Env
  | _, [] => []
  | i, v :: vs => (i, v) :: parEnv (i + 1) vs
def hputs (h : Heap) : Heap → Heap
  | [] => h
  | (t, b) :: n => hputs (hput h t b) n
def putO (e : Env) : Option Nat → AV → Env
  | some d, v => put e d v
  | none, _ => e
def tupOf : List Ty → List AV → AV
  | [_], [v] => v
  | _, vs => .tup vs
def codeAt (c : Code) : Path → Option Code
  | [] => some c
  | d :: p => match codeAt c p with
    | none => none
    | some x => match x, d with
      | .seq a _, 0 => some a
      | .seq _ b, 1 => some b
      | .cond _ a _, 0 => some a
      | .cond _ _ b, 1 => some b
      | .block _ b, 0 => some b
      | .loop b, 0 => some b
      | .scope b, 0 => some b
      | .scope b, l + 2 => findLabel b l
      | .rangeFunc _ _ a _, 0 => some a
      | .rangeFunc _ _ _ b, 1 => some b
      | _, _ => none
def isApp : Op → Bool
  | .call ⟨.builtin .append, _, _⟩ => true
  | _ => false
def die (h0 h : Heap) : AV → AV
  | .who tok f => match hget h tok with
    | some _ => .who tok f
    | none => match hget h0 tok with
      | some (.arr t l) => .husk t l.length
      | _ => .who tok f
  | v => v
def envDie (op : Op) (h0 h : Heap) (e : Env) : Env :=
  match isApp op with
  | true => e.map fun p => (p.1, die h0 h p.2)
  | false => e
noncomputable def eqOr {α : Type} (a b : Option α) : Option α := open Classical in if a = b then a else none
def putPs : List Nat → List AV → Env → Env
  | d :: ds, v :: vs, e => putPs ds vs (put e d v)
  | _, _, e => e
def yKey : Nat := 1000000000
def givesC (h : Heap) : Ty → List AV → Option (List Nat × List Nat × List AV)
  | .unit, cs => some ([], [], cs)
  | .pair a b, cs => match givesC h a cs with
    | some (g, s, cs) => match givesC h b cs with
      | some (g', s', cs) => some (g ++ g', s ++ s', cs)
      | none => none
    | none => none
  | .one t, cs => givesC h t cs
  | .own t, c :: cs => match c with
    | .nilsl => some ([], [], cs)
    | .who tok _ => match hget h tok with
      | some (.arr _ _) => some ([tok], [], cs)
      | _ => none
    | _ => none
  | _, c :: cs => some ([], toks c, cs)
  | _, [] => none
def givesL (h : Heap) : List Ty → List AV → Option (List Nat × List Nat)
  | [], [] => some ([], [])
  | t :: ts, v :: vs => match givesC h t (cells v), givesL h ts vs with
    | some (g, s, []), some (g', s') => some (g ++ g', s ++ s')
    | _, _ => none
  | _, _ => none
section
variable {C} (s : Sm C) (inst : Nat)
def pickE : Option Ann → Env → Env
  | none, e => e
  | some a, e => a.live.map fun p => (p.1, get e p.1)
def ioCall (stk : List Fr) (o : Oper) (K : St → Option (den (tyL (C.rts inst)))) (st : St) (tok g j : Nat) (vs : List AV) : Option (den (tyL (C.rts inst))) :=
  match vs with
  | .ptr T off :: vs' => match hget st.heap T with
    | some (.box cs) => match Nat.beq (C.fid j) g && (Nat.beq off 0 && (!hasOwn (tyL (C.rts j)) || freshAt stk st tok)), givesL st.heap (C.pts j) (.agg cs :: vs'), toDenL st.heap (C.pts j) (.agg cs :: vs') with
      | true, some (gv, sh), some x => match nodupB gv && gv.all (fun t => !sh.elem t) with
        | false => none
        | true => (s.callF j x).bind fun r =>
          match impL tok (C.rts j) r 0 with
          | (.agg cs' :: rs, hn, n) => match Nat.ble n 16 with
            | true => K { st with env := putO st.env o.dst (tupOf (C.rts j).tail rs), heap := hput (hputs (hput (hdels (freeze sh st.heap) gv) T (.box (cs.map fun _ => .undef))) hn) T (.box cs') }
            | false => none
          | _ => none
      | _, _, _ => none
    | _ => none
  | _ => none
def derefs (h : Heap) : List Bool → List Ty → List AV → Option (List AV)
  | [], [], [] => some []
  | false :: fl, _ :: ts, v :: vs => match derefs h fl ts vs with
    | some r => some (v :: r)
    | none => none
  | true :: fl, t :: ts, .ptr T off :: vs => match Nat.beq off 0, hget h T, derefs h fl ts vs with
    | true, some (.box cs), some r => (match Nat.ble (csz t) cs.length, isAgg t, cs.take (csz t) with
      | true, true, l => some (.agg l :: r)
      | true, false, [c] => some (c :: r)
      | _, _, _ => none)
    | _, _, _ => none
  | _, _, _ => none
def tokIn (ds vs : List AV) : Bool := (toksL ds).all fun T => (toksL vs).elem T
def rdCall (o : Oper) (K : St → Option (den (tyL (C.rts inst)))) (st : St) (g j : Nat) (fl : List Bool) (vs : List AV) : Option (den (tyL (C.rts inst))) :=
  match derefs st.heap fl (C.pts j) vs with
  | none => none
  | some ds => match Nat.beq (C.fid j) g && !hasSl (tyL (C.rts j)), toDenL st.heap (C.pts j) ds with
    | true, some x => (s.callF j x).bind fun r => K { st with env := putO st.env o.dst (tupOf (C.rts j) (ofDenL (C.rts j) r)) }
    | _, _ => none
def doOp (stk : List Fr) (f : Nat) (path : Path) (i : Nat) (rest : List Nat) (o : Oper) (K : St → Option (den (tyL (C.rts inst)))) (st : St) : Option (den (tyL (C.rts inst))) :=
  forceN (tokBase st.salt (o.dst.getD 0)) fun tok =>
  match o.op with
  | .call ⟨.value fo, args, _⟩ =>
    match ev st.env fo with
    | .func g first caps =>
      let vs := first ++ args.toList.map (ev st.env) ++ caps
      match C.fn g with
      | none => none
      | some gfn => match C.disp inst g vs with
        | .spec j => match C.io j with
          | true => ioCall s inst stk o K st tok g j vs
          | false => match C.rd j with
            | b :: fl => rdCall s inst o K st g j (b :: fl) vs
            | [] => match Nat.beq (C.fid j) g, toDenL st.heap (C.pts j) vs with
              | true, some x => (s.callF j x).bind fun r =>
                match hasOwn (tyL (C.rts j)), o.dst with
                | true, some _ => match freshAt stk st tok, impL tok (C.rts j) r 0 with
                  | true, (rs, hn, n) => match Nat.ble n 16 with
                    | true => K { st with env := putO st.env o.dst (tupOf (C.rts j) rs), heap := hputs (shown (hasSl (tyL (C.rts j))) (toksL vs) st.heap) hn }
                    | false => none
                  | false, _ => none
                | _, _ => K { st with env := putO st.env o.dst (tupOf (C.rts j) (ofDenL (C.rts j) r)), heap := shown (hasSl (tyL (C.rts j))) (toksL vs) st.heap }
              | _, _ => none
        | .inl => match Nat.ble vs.length gfn.ntmps with
          | true => forceN (subSalt st.salt (o.dst.getD 0)) fun sl => s.stage inst ({ f := f, path := path, op := i, rest := rest, env := pickE (C.ann inst f ((i + 1000000) :: path)) st.env, salt := st.salt } :: stk) g [] { env := parEnv 0 vs, heap := st.heap, salt := sl }
          | false => none
        | .no => none
    | .yld => match stk with
      | [lf] => match C.fn lf.f, lf.ls with
        | some lfn, .ready => match lfn.body with
          | none => none
          | some lb => match codeAt lb lf.path with
            | some (.rangeFunc _ ps _ _) => match Nat.beq args.size ps.size && ps.toList.all (fun d => Nat.blt d lfn.ntmps) with
              | true => forceN (subSalt lf.salt 4094) fun sl => s.stage inst [{ f := f, path := path, op := i, rest := rest, env := pickE (C.ann inst f ((i + 1000000) :: path)) st.env, salt := st.salt }, lf] lf.f (0 :: lf.path)
                  { env := putPs ps.toList (args.toList.map (ev st.env)) lf.env, heap := st.heap, salt := sl }
              | false => none
            | _ => none
        | _, _ => none
      | _ => none
    | _ => none
  | op => match plainOp C st.env st.heap tok op, !makes C op || (o.dst.isSome && freshAt stk st tok) with
    | .no, _ => none
    | _, false => none
    | .ok c b v1 v2 h, true =>
      cond c (cond b (K { st with env := putO (envDie o.op st.heap h st.env) o.dst v1, heap := h }) (K { st with env := putO (envDie o.op st.heap h st.env) o.dst v2, heap := h })) none
def runOps (stk : List Fr) (f ntmps : Nat) (path : Path) (ops : Array Oper) (K : St → Option (den (tyL (C.rts inst)))) : List Nat → St → Option (den (tyL (C.rts inst)))
  | [], st => K st
  | i :: rest, st =>
    match ops[i]? with
    | none => none
    | some o =>
      match (match o.dst with
        | none => true
        | some d => Nat.blt d ntmps) with
      | false => none
      | true => match o.guard with
        | none => doOp s inst stk f path i rest o (fun st => runOps stk f ntmps path ops K rest st) st
        | some (j, want) => match (ops[j]?).bind (·.dst) with
          | none => none
          | some d => match get st.env d with
            | .bool g => match want with
              | true => cond g (doOp s inst stk f path i rest o (fun st => runOps stk f ntmps path ops K rest st) { st with env := put st.env d (.bool true) })
                  (runOps stk f ntmps path ops K rest { st with env := putO (put st.env d (.bool false)) o.dst (.cst undef) })
              | false => cond g (runOps stk f ntmps path ops K rest { st with env := putO (put st.env d (.bool true)) o.dst (.cst undef) })
                  (doOp s inst stk f path i rest o (fun st => runOps stk f ntmps path ops K rest st) { st with env := put st.env d (.bool false) })
            | .cst v => match v with
              | .bool _ => none
              | _ => runOps stk f ntmps path ops K rest { st with env := putO st.env o.dst (.cst undef) }
            | _ => none
def reads : Op → List Operand
  | .move x => [x]
  | .assign x => [x]
  | .pick c a b => [c, a, b]
  | .load _ p => [p]
  | .store _ p v => [p, v]
  | .nilCheck x => [x]
  | .binOp _ _ x y _ => [x, y]
  | .unOp _ _ x => [x]
  | .convert _ _ x => [x]
  | .slice _ x lo hi mx => x :: (lo.toList ++ hi.toList ++ mx.toList)
  | .fieldAddr _ x _ => [x]
  | .field _ x _ => [x]
  | .indexAddr _ x i => [x, i]
  | .index _ x i => [x, i]
  | .extract x _ => [x]
  | .build _ ps => ps.toList.map (·.2)
  | .buildSlice _ _ ps => ps.toList.map (·.2)
  | .call ⟨.value fo, args, _⟩ => fo :: args.toList
  | .call ⟨_, args, _⟩ => args.toList
  | _ => []
def calm : Op → Bool
  | .move _ => true
  | .assign _ => true
  | .pick _ _ _ => true
  | .load _ _ => true
  | .nilCheck _ => true
  | .binOp _ _ _ _ _ => true
  | .unOp _ _ _ => true
  | .convert _ _ _ => true
  | .slice _ _ _ _ _ => true
  | .fieldAddr _ _ _ => true
  | .field _ _ _ => true
  | .indexAddr _ _ _ => true
  | .index _ _ _ => true
  | .extract _ _ => true
  | .build _ _ => true
  | .call ⟨.builtin .len, _, _⟩ => true
  | .call ⟨.builtin .max, _, _⟩ => true
  | .call ⟨.builtin .min, _, _⟩ => true
  | _ => false
def light : Op → Bool
  | .move _ => true
  | .assign _ => true
  | .pick _ _ _ => true
  | .binOp _ _ _ _ _ => true
  | .unOp _ _ _ => true
  | .field _ _ _ => true
  | .extract _ _ => true
  | .fieldAddr _ _ _ => true
  | .nilCheck _ => true
  | _ => false
def ownF (g : Nat) : Bool :=
  match C.disp inst g [] with
  | .spec j => hasOwn (tyL (C.rts j))
  | _ => false
def maker (o : Oper) : Bool :=
  match o.op with
  | .alloc _ => true
  | .buildSlice _ _ _ => true
  | .call ⟨.value (.func g), _, _⟩ => o.dst.isSome && ownF (C := C) inst g
  | .call ⟨.builtin .append, _, _⟩ => true
  | _ => false
def storesAt (mk : Bool) (o : Oper) (st : St) : Bool :=
  match o.op with
  | .store _ p v => match ev st.env p with
    | .ptr tok _ => !mk || ((toks (ev st.env v)).isEmpty && match hget st.heap tok with
      | some (.box cs) => (toksL cs).isEmpty
      | _ => false)
    | _ => false
  | _ => false
def makesAt (o : Oper) : Bool :=
  match o.op with
  | .alloc t => match C.ti t with
    | some ti => (toksL ti.zero).isEmpty
    | none => false
  | .buildSlice _ _ _ => true
  | _ => false
def callsAt (o : Oper) (st : St) : Bool :=
  match o.op with
  | .call ⟨.value fo, args, _⟩ => match ev st.env fo with
    | .func g first caps => match C.disp inst g (first ++ args.toList.map (ev st.env) ++ caps) with
      | .spec j => !C.io j && ((C.rd j).isEmpty && (!(hasOwn (tyL (C.rts j)) && o.dst.isSome) || maker (C := C) inst o))
      | _ => false
    | _ => false
  | _ => false
def ioAt (o : Oper) (st : St) : Bool :=
  match o.op with
  | .call ⟨.value fo, args, _⟩ => match ev st.env fo with
    | .func g first caps => match C.disp inst g (first ++ args.toList.map (ev st.env) ++ caps) with
      | .spec j => C.io j && ((!hasOwn (tyL (C.rts j)) && !(C.pts j).any hasOwn) && match first ++ args.toList.map (ev st.env) ++ caps with
        | .ptr T _ :: vs => (toksL vs).isEmpty && (match hget st.heap T with
          | some (.box cs) => (toksL cs).isEmpty
          | _ => false)
        | _ => false)
      | _ => false
    | _ => false
  | _ => false
def wide (o : Oper) : Bool :=
  match o.op with
  | .call ⟨.value fo, _, _⟩ => match fo with
    | .func g => match C.disp inst g [] with
      | .spec j => !(C.rd j).isEmpty
      | _ => false
    | _ => false
  | _ => false
def calmAt (o : Oper) (st : St) : Bool :=
  match o.op with
  | .call ⟨.value fo, args, _⟩ => match ev st.env fo with
    | .func g first caps => match C.disp inst g (first ++ args.toList.map (ev st.env) ++ caps) with
      | .spec j => !C.io j && (((C.rd j).isEmpty || (wide (C := C) inst o || match derefs st.heap (C.rd j) (C.pts j) (first ++ args.toList.map (ev st.env) ++ caps) with
        | some ds => tokIn ds (first ++ args.toList.map (ev st.env) ++ caps)
        | none => true)) && ((!hasOwn (tyL (C.rts j)) || o.dst.isNone) && (!hasSl (tyL (C.rts j)) || (toksL (first ++ args.toList.map (ev st.env) ++ caps)).isEmpty)))
      | _ => false
    | _ => false
  | op => calm op && !makes C op
def doFree (mk : Bool) (stk : List Fr) (f : Nat) (path : Path) (i : Nat) (rest : List Nat) (o : Oper) (K : St → Option (den (tyL (C.rts inst)))) (st : St) : Option (den (tyL (C.rts inst))) :=
  match calmAt (C := C) inst o st || (storesAt mk o st || (makesAt (C := C) o || (callsAt (C := C) inst o st || ioAt (C := C) inst o st))) with
  | true => doOp s inst stk f path i rest o K st
  | false => match isApp o.op, o.dst with
    | true, some d => doOp s inst stk f path i rest o (fun st' => K { st' with env := put st.env d (get st'.env d) }) st
    | _, _ => none
def runFree (mk : Bool) (stk : List Fr) (f ntmps : Nat) (path : Path) (ops : Array Oper) (K : St → Option (den (tyL (C.rts inst)))) : List Nat → St → Option (den (tyL (C.rts inst)))
  | [], st => K st
  | i :: rest, st =>
    match ops[i]? with
    | none => none
    | some o =>
      match (match o.dst with
        | none => true
        | some d => Nat.blt d ntmps) with
      | false => none
      | true => match o.guard with
        | none => doFree s inst mk stk f path i rest o (fun st => runFree mk stk f ntmps path ops K rest st) st
        | some (j, want) => match (ops[j]?).bind (·.dst) with
          | none => none
          | some d => match get st.env d with
            | .bool g => match want with
              | true => cond g (doFree s inst mk stk f path i rest o (fun st => runFree mk stk f ntmps path ops K rest st) { st with env := put st.env d (.bool true) })
                  (runFree mk stk f ntmps path ops K rest { st with env := putO (put st.env d (.bool false)) o.dst (.cst undef) })
              | false => cond g (runFree mk stk f ntmps path ops K rest { st with env := putO (put st.env d (.bool true)) o.dst (.cst undef) })
                  (doFree s inst mk stk f path i rest o (fun st => runFree mk stk f ntmps path ops K rest st) { st with env := put st.env d (.bool false) })
            | .cst v => match v with
              | .bool _ => none
              | _ => runFree mk stk f ntmps path ops K rest { st with env := putO st.env o.dst (.cst undef) }
            | _ => none
def bindsOn (o : Oper) (j : Nat) : Bool := o.after.toList.any fun e => Region.binds .any e && Nat.beq e.on j
def bindsT (ops : Array Oper) : Nat → Oper → Nat → Bool
  | 0, o, j => bindsOn o j
  | k + 1, o, j => match bindsOn o j with
    | true => true
    | false => o.after.toList.any fun e => match Region.binds .any e with
      | true => (match ops[e.on]? with
        | some o' => bindsT ops k o' j
        | none => false)
      | false => false
def bnd (ops : Array Oper) (o : Oper) (j : Nat) : Bool := bindsT ops 12 o j
def freeCount (ops : Array Oper) : Nat → Nat
  | 0 => 0
  | k + 1 => match ops[k]? with
    | none => 0
    | some o => match (List.range k).all (bnd ops o) with
      | true => freeCount ops k
      | false => k + 1
def dstAt (ops : Array Oper) (i : Nat) : Option Nat := (ops[i]?).bind (·.dst)
def seesFree (ops : Array Oper) (m : Nat) (o : Oper) (t : Nat) : Bool :=
  (List.range m).all fun j => match dstAt ops j with
    | some d => !Nat.beq d t || bnd ops o j
    | none => true
def freeOk (ops : Array Oper) (m i : Nat) : Bool :=
  match ops[i]? with
  | none => false
  | some o =>
    (o.after.toList.all fun e => !Region.binds .any e || Nat.blt e.on i) && (!Nat.blt i m || (
      ((reads o.op).all fun x => match x with
        | .tmp t => seesFree ops m o t
        | _ => true) &&
      ((match o.guard with
        | some (j, _) => Nat.blt j m && bnd ops o j
        | none => true) &&
      (match o.dst with
        | some d => (List.range m).all fun j => Nat.beq j i || (match dstAt ops j with
          | some d' => !Nat.beq d' d
          | none => true)
        | none => true))))
def looksAt (op : Op) (e : Env) : List Nat := toksL ((reads op).map (ev e))
def wToks (o : Oper) (e : Env) : List Nat :=
  match o.op with
  | .store _ p _ => (match ev e p with
    | .ptr tok _ => [tok]
    | _ => [])
  | .buildSlice _ _ ps => toksL (ps.toList.map fun p => ev e p.2)
  | .call ⟨.builtin .append, args, _⟩ => (match args.toList.map (ev e) with
    | s :: _ => (match s with
      | .who tk _ => [tk]
      | .ref tk _ _ _ => [tk]
      | _ => [])
    | [] => [])
  | .call ⟨.value fo, args, _⟩ => (match ev e fo with
    | .func g first caps => (match C.disp inst g (first ++ args.toList.map (ev e) ++ caps) with
      | .spec j => (match hasSl (tyL (C.rts j)) || C.io j with
        | true => toksL (first ++ args.toList.map (ev e) ++ caps)
        | false => [])
      | _ => [])
    | _ => [])
  | _ => []
def notIn (tok T : Nat) : Bool := Nat.blt T tok || Nat.ble (tok + 16) T
def baseOf (salt : Nat) (o : Oper) : Nat := tokBase salt (o.dst.getD 0)
def disj (a b : Nat) : Bool := Nat.ble (a + 16) b || Nat.ble (b + 16) a
def offAt (ops : Array Oper) (e : Env) (o : Oper) : Bool :=
  match o.guard with
  | none => false
  | some (j, want) => match dstAt ops j with
    | none => false
    | some d => match get e d with
      | .bool b => (match b with
        | true => !want
        | false => want)
      | .cst v => (match v with
        | .bool _ => false
        | _ => true)
      | _ => false
def apart (salt : Nat) (o o' : Oper) (e : Env) : Bool :=
  (wToks (C := C) inst o e).all (fun T => !(looksAt o'.op e).elem T && (!maker (C := C) inst o' || notIn (baseOf salt o') T)) &&
    (!maker (C := C) inst o || ((looksAt o'.op e).all (notIn (baseOf salt o)) && (!maker (C := C) inst o' || disj (baseOf salt o) (baseOf salt o'))))
def pairOk (ops : Array Oper) (salt : Nat) (e : Env) (i j : Nat) (o o' : Oper) : Bool :=
  match Nat.beq j i || light o'.op with
  | true => true
  | false => match offAt ops e o' || apart (C := C) inst salt o o' e with
    | true => true
    | false => (Nat.blt j i && bnd ops o j) || (Nat.blt i j && bnd ops o' i)
def storeEnd (ops : Array Oper) (m salt : Nat) (e : Env) (i : Nat) (o : Oper) : Bool :=
  match (wToks (C := C) inst o e).isEmpty && !maker (C := C) inst o with
  | true => true
  | false => match offAt ops e o with
    | true => true
    | false => (List.range m).all fun j => match ops[j]? with
      | some o' => pairOk (C := C) inst ops salt e i j o o'
      | none => true
def quiet (ops : Array Oper) (m : Nat) (e : Env) : Bool :=
  (List.range m).all fun i => match ops[i]? with
    | some o => (wToks (C := C) inst o e).isEmpty && !maker (C := C) inst o
    | none => true
def endOk (ops : Array Oper) (m salt : Nat) (e : Env) : Bool :=
  (List.range m).all fun i => match ops[i]? with
    | some o => storeEnd (C := C) inst ops m salt e i o && (!wide (C := C) inst o || quiet (C := C) inst ops m e)
    | none => true
def waitsDst (ops : Array Oper) (m i t : Nat) : Bool :=
  (List.range m).any fun j => match ops[j]? with
    | some o => (match o.dst with
      | some d => Nat.beq d t
      | none => false) && (Nat.beq j i || bnd ops o i)
    | none => false
def freshOne (ops : Array Oper) (m : Nat) (stk : List Fr) (salt : Nat) (h0 : Heap) (e : Env) (i tok : Nat) : Bool :=
  (e.all fun q => waitsDst ops m i q.1 || (toks q.2).all (notIn tok)) && ((heapToks h0).all (notIn tok) && ((notIn tok ioTok && stk.all fun fr => (envToks fr.env).all (notIn tok)) &&
    (List.range m).all fun j => Nat.beq j i || (match ops[j]? with
      | some o => offAt ops e o || (bnd ops o i || ((wToks (C := C) inst o e).all (notIn tok) && (!maker (C := C) inst o || disj tok (baseOf salt o))))
      | none => true)))
def freshEnd (ops : Array Oper) (m : Nat) (stk : List Fr) (salt : Nat) (h0 : Heap) (e : Env) : Bool :=
  (List.range m).all fun i => match ops[i]? with
    | some o => (match maker (C := C) inst o with
      | false => true
      | true => offAt ops e o || freshOne (C := C) inst ops m stk salt h0 e i (baseOf salt o))
    | none => true
def mkAny (ops : Array Oper) (m : Nat) : Bool := (List.range m).any fun j => match ops[j]? with
  | some o => maker (C := C) inst o
  | none => false
def drawOk (ops : Array Oper) (m : Nat) : Bool := Nat.ble m ops.size && ((List.range ops.size).all (freeOk ops m) && (List.range ops.size).all fun k => Nat.blt k m || (match ops[k]? with
  | some o => (List.range k).all (bnd ops o)
  | none => false))
def swapAt (ops : Array Oper) (m : Nat) : Option Nat :=
  match m with
  | k + 3 => match ops[k]?, ops[k + 1]?, ops[k + 2]? with
    | some o, some a, some b => match o.op, a.op, b.op with
      | .call ⟨.value (.func g), _, _⟩, .extract _ _, .extract _ _ => match C.disp inst g [] with
        | .inl => some (k + 1)
        | _ => none
      | _, _, _ => none
    | _, _, _ => none
  | _ => none
def swapL (m k n : Nat) : List Nat := List.range' m (k - m) ++ (k + 1) :: k :: List.range' (k + 2) (n - (k + 2))
def drawOk2 (ops : Array Oper) (m k : Nat) : Bool := Nat.ble m k && (Nat.ble (k + 2) ops.size && ((List.range ops.size).all (freeOk ops m) && (List.range ops.size).all fun i => Nat.blt i m || (match ops[i]? with
  | some o => (match Nat.beq i (k + 1) with
    | true => (List.range k).all (bnd ops o)
    | false => (List.range i).all (bnd ops o))
  | none => false)))
noncomputable def runRegion (stk : List Fr) (f ntmps : Nat) (p : Path) (ops : Array Oper) (draw : Bool) (K : St → Option (den (tyL (C.rts inst)))) (st : St) : Option (den (tyL (C.rts inst))) :=
  match draw with
  | false => runOps s inst stk f ntmps p ops K (List.range ops.size) st
  | true =>
    let m := freeCount ops ops.size
    match swapAt (C := C) inst ops m with
    | none => match drawOk ops m with
      | true => runFree s inst (mkAny (C := C) inst ops m) stk f ntmps p ops (fun st' => match forceN st'.salt fun sl => endOk (C := C) inst ops m sl st'.env && (!mkAny (C := C) inst ops m || freshEnd (C := C) inst ops m stk sl st.heap st'.env) with
        | true => runOps s inst stk f ntmps p ops K (List.range' m (ops.size - m)) st'
        | false => none) (List.range m) st
      | false => none
    | some k =>
      let m := freeCount ops k
      match drawOk2 ops m k with
      | true => runFree s inst (mkAny (C := C) inst ops m) stk f ntmps p ops (fun st' => match forceN st'.salt fun sl => endOk (C := C) inst ops m sl st'.env && (!mkAny (C := C) inst ops m || freshEnd (C := C) inst ops m stk sl st.heap st'.env) with
        | true => eqOr (runOps s inst stk f ntmps p ops K (List.range' m (ops.size - m)) st') (runOps s inst stk f ntmps p ops K (swapL m k ops.size) st')
        | false => none) (List.range m) st
      | false => none
def enterLp (f : Nat) (p : Path) (st : St) (fo : Operand) : Option (den (tyL (C.rts inst))) :=
  match ev st.env fo with
  | .func g first caps => match C.fn g with
    | some gfn => match Nat.ble (first ++ [AV.yld] ++ caps).length gfn.ntmps && freshAt [] st yTok with
      | true => forceN (subSalt st.salt 4093) fun sl => s.stage inst [{ f := f, path := p, op := 0, rest := [], env := (yKey, .undef) :: (yKey, .yld) :: pickE (C.ann inst f (1000000 :: p)) st.env, salt := st.salt }] g []
          { env := parEnv 0 (first ++ [AV.yld] ++ caps), heap := st.heap, salt := sl }
      | false => none
    | none => none
  | _ => none
noncomputable def run (stk : List Fr) (f ntmps : Nat) : Path → Code → St → (Ex → St → Option (den (tyL (C.rts inst)))) → Option (den (tyL (C.rts inst)))
  | p, c, st, K =>
    match C.ann inst f p with
    | some a => match canon a stk st with
      | some st => s.stage inst stk f p st
      | none => none
    | none => match c with
      | .skip => K .normal st
      | .label _ => K .normal st
      | .region _ ops draw => runRegion s inst stk f ntmps p ops draw (K .normal) st
      | .seq a b => run stk f ntmps (0 :: p) a st fun e st => match e with
        | .normal => run stk f ntmps (1 :: p) b st K
        | e => K e st
      | .cond c a b => match ev st.env c with
        | .bool v => cond v (run stk f ntmps (0 :: p) a (known c true st) K) (run stk f ntmps (1 :: p) b (known c false st) K)
        | .maybe => eqOr (run stk f ntmps (0 :: p) a (known c true st) K) (run stk f ntmps (1 :: p) b (known c false st) K)
        | _ => none
      | .block id c => run stk f ntmps (0 :: p) c st fun e st => match e with
        | .exit j => match Nat.beq j id with
          | true => K .normal st
          | false => K (.exit j) st
        | e => K e st
      | .loop _ => none
      | .scope c => run stk f ntmps (0 :: p) c st fun e st => match e with
        | .goto l => match findLabel c l with
          | some _ => match C.ann inst f ((l + 2) :: p) with
            | some a => match canon a stk st with
              | some st => s.stage inst stk f ((l + 2) :: p) st
              | none => none
            | none => none
          | none => K (.goto l) st
        | e => K e st
      | .exit id => K (.exit id) st
      | .goto l => K (.goto l) st
      | .ret => K .ret st
      | .rangeFunc fo _ _ _ => match stk with
        | [] => enterLp s inst f p st fo
        | _ :: _ => none
      | _ => none
noncomputable def kont (stk : List Fr) (f ntmps : Nat) (body : Code) (R : St → Option (den (tyL (C.rts inst)))) (E : Ex → St → Option (den (tyL (C.rts inst)))) : Path → Ex → St → Option (den (tyL (C.rts inst)))
  | [], e, st => match e with
    | .normal => R st
    | .ret => R st
    | _ => none
  | d :: p, e, st => match codeAt body p with
    | none => none
    | some x => match x, d with
      | .seq _ b, 0 => match e with
        | .normal => run s inst stk f ntmps (1 :: p) b st (kont stk f ntmps body R E p)
        | e => kont stk f ntmps body R E p e st
      | .seq _ _, 1 => kont stk f ntmps body R E p e st
      | .cond _ _ _, 0 => kont stk f ntmps body R E p e st
      | .cond _ _ _, 1 => kont stk f ntmps body R E p e st
      | .block id _, 0 => match e with
        | .exit j => match Nat.beq j id with
          | true => kont stk f ntmps body R E p .normal st
          | false => kont stk f ntmps body R E p (.exit j) st
        | e => kont stk f ntmps body R E p e st
      | .loop _, 0 => match e with
        | .normal => match C.ann inst f p with
          | some a => match canon a stk st with
            | some st => s.stage inst stk f p st
            | none => none
          | none => none
        | e => kont stk f ntmps body R E p e st
      | .scope b, _ => match e with
        | .goto l => match findLabel b l with
          | some _ => match C.ann inst f ((l + 2) :: p) with
            | some a => match canon a stk st with
              | some st => s.stage inst stk f ((l + 2) :: p) st
              | none => none
            | none => none
          | none => kont stk f ntmps body R E p (.goto l) st
        | e => kont stk f ntmps body R E p e st
      | .rangeFunc _ _ _ b, 0 => match e with
        | .normal => match stk with
          | [it, lf] => match lf.ls with
            | .ready => run s inst [it, { lf with ls := .busy }] f ntmps (1 :: p) b st E
            | _ => none
          | _ => none
        | _ => none
      | .rangeFunc _ _ _ _, 1 => E e st
      | _, _ => none
def resultsOf (rs : List ResultVar) (st : St) : Option (List AV) :=
  match rs with
  | [] => some []
  | .tmp t :: rs => match resultsOf rs st with
    | some vs => some (get st.env t :: vs)
    | none => none
  | .cell a t :: rs => match C.ti t with
    | some ti => match loadOp ti (get st.env a) st.heap, resultsOf rs st with
      | .ok true true v _ _, some vs => some (v :: vs)
      | _, _ => none
    | none => none
def ioOut (h : Heap) : Bool → List AV → Option (List AV)
  | false, vs => some vs
  | true, vs => match hget h ioTok with
    | some (.box cs) => some (.agg cs :: vs)
    | _ => none
def finish (rs : List ResultVar) (st : St) : Option (den (tyL (C.rts inst))) :=
  match (resultsOf (C := C) rs st).bind (ioOut st.heap (C.io inst)) with
  | none => none
  | some vs => match (match (C.rts inst).any hasOwn with
      | false => true
      | true => match givesL st.heap (C.rts inst) vs with
        | some (g, sh) => nodupB g && g.all fun t => !sh.elem t
        | none => false) with
    | true => toDenL st.heap (C.rts inst) vs
    | false => none
def oneOf : List AV → AV
  | [v] => v
  | vs => .tup vs
def lsEx : LSt → Option Ex
  | .ready => some .normal
  | .done e => some e
  | .busy => none
inductive Lv where
  | ret (rs : List ResultVar) (ls : Option LSt)
  | round (e : Ex)
def isNormal : Ex → Bool
  | .normal => true
  | _ => false
def roundLs (e : Ex) : LSt := match e with
  | .normal => .ready
  | e => .done e
noncomputable def backTo : List Fr → Lv → St → Option (den (tyL (C.rts inst)))
  | [], lv, st => match lv with
    | .ret rs _ => finish inst rs st
    | .round _ => none
  | fr :: stk, lv, st => match C.fn fr.f with
    | none => none
    | some fn => match fn.body with
      | none => none
      | some body => match codeAt body fr.path with
        | some (.region _ ops _) => match ops[fr.op]? with
          | some o => match lv with
            | .ret rs none => match resultsOf (C := C) rs st with
              | none => none
              | some vs => runOps s inst stk fr.f fn.ntmps fr.path ops (fun st => kont s inst stk fr.f fn.ntmps body (backTo stk (.ret fn.results.toList none)) (fun e => backTo stk (.round e)) fr.path .normal st) fr.rest
                { env := putO fr.env o.dst (oneOf vs), heap := st.heap, salt := fr.salt }
            | .ret _ (some _) => none
            | .round e => match stk with
              | [lf] => runOps s inst [{ lf with ls := roundLs e }] fr.f fn.ntmps fr.path ops (fun st => kont s inst [{ lf with ls := roundLs e }] fr.f fn.ntmps body (backTo stk (.ret fn.results.toList (some (roundLs e)))) (fun _ _ => none) fr.path .normal st) fr.rest
                { env := putO fr.env o.dst (.bool (isNormal e)), heap := st.heap, salt := fr.salt }
              | _ => none
          | none => none
        | some (.rangeFunc _ _ _ _) => match lv with
          | .ret [] ls => match stk, lsEx (ls.getD fr.ls) with
            | [], some e => kont s inst [] fr.f fn.ntmps body (finish inst fn.results.toList) (fun _ _ => none) fr.path e { env := fr.env, heap := st.heap, salt := fr.salt }
            | _, _ => none
          | _ => none
        | _ => none
noncomputable def stageStep (stk : List Fr) (f : Nat) (p : Path) (st : St) : Option (den (tyL (C.rts inst))) :=
  match C.fn f with
  | none => none
  | some fn => match fn.body with
    | none => none
    | some body =>
      let K := kont s inst stk f fn.ntmps body (backTo s inst stk (.ret fn.results.toList none)) (fun e => backTo s inst stk (.round e))
      match codeAt body p with
      | none => none
      | some c => match c with
        | .skip => K p .normal st
        | .label _ => K p .normal st
        | .region _ ops draw => runRegion s inst stk f fn.ntmps p ops draw (K p .normal) st
        | .seq a b => run s inst stk f fn.ntmps (0 :: p) a st (K (0 :: p))
        | .cond c a b => match ev st.env c with
          | .bool v => cond v (run s inst stk f fn.ntmps (0 :: p) a (known c true st) (K p)) (run s inst stk f fn.ntmps (1 :: p) b (known c false st) (K p))
          | .maybe => eqOr (run s inst stk f fn.ntmps (0 :: p) a (known c true st) (K p)) (run s inst stk f fn.ntmps (1 :: p) b (known c false st) (K p))
          | _ => none
        | .block id c => run s inst stk f fn.ntmps (0 :: p) c st (K (0 :: p))
        | .loop c => run s inst stk f fn.ntmps (0 :: p) c st (K (0 :: p))
        | .scope c => run s inst stk f fn.ntmps (0 :: p) c st (K (0 :: p))
        | .exit id => K p (.exit id) st
        | .goto l => K p (.goto l) st
        | .ret => K p .ret st
        | .rangeFunc fo _ _ _ => match stk with
          | [] => enterLp s inst f p st fo
          | _ :: _ => none
        | _ => none
end
def parL : List Bool → (ts : List Ty) → den (tyL ts) → List AV
  | _, [], _ => []
  | true :: _, [t], x => [.rptr t x 0]
  | _, [t], x => [ofDen t x]
  | true :: fl, t :: u :: ts, x => .rptr t x.1 0 :: parL fl (u :: ts) x.2
  | fl, t :: u :: ts, x => ofDen t x.1 :: parL fl.tail (u :: ts) x.2
def entry (i : Nat) (x : den (tyL (C.pts i))) : Option St :=
  match C.io i with
  | false => match C.rd i with
    | [] => some { env := parEnv 0 (ofDenL (C.pts i) x), heap := [], salt := 0 }
    | b :: fl => some { env := parEnv 0 (parL (b :: fl) (C.pts i) x), heap := [], salt := 0 }
  | true => match impL (ioTok + 16) (C.pts i) x 0 with
    | (.agg cs :: rs, hn, n) => match Nat.ble n 16 with
      | true => some { env := parEnv 0 (.ptr ioTok 0 :: rs), heap := hput (hputs [] hn) ioTok (.box cs), salt := 0 }
      | false => none
    | _ => none
noncomputable def sem : Nat → Sm C
  | 0 => { callF := fun _ _ => none, stage := fun _ _ _ _ _ => none }
  | k + 1 => {
      callF := fun i x => match C.io i, C.rd i, C.ext i with
        | false, [], some g => g x
        | _, _, _ => match entry C i x with
          | some st => stageStep (sem k) i [] (C.fid i) [] st
          | none => none
      stage := fun i stk f p st => stageStep (sem k) i stk f p st }
noncomputable abbrev callF (k : Nat) := (sem C k).callF
noncomputable abbrev stage (k : Nat) := (sem C k).stage
end Go.Proofs.YtpdfjgooaaailaaGreatDoor.K
namespace Go.Proofs.YtpdfjgooaaailaaGreatDoor.K
open Go
open Go.RowKit (Below)
def row (c : Array Value) (o n : Nat) : List Value := (c.toList.drop o).take n
theorem row_length {c : Array Value} {o n : Nat} (h : o + n ≤ c.size) : (row c o n).length = n := by
  simp [row]; omega
def RowR {α : Type} (hp : Array Obj) (ok : Nat → Prop) (n : Nat) (R : α → List Value → Prop) (l : List α) (a : Option Addr) : Prop :=
  l ≠ [] → ∃ b o c e fr, a = some ⟨b, o, none⟩ ∧ ok b ∧ hp[b]? = some (Obj.cells c e fr) ∧ ∀ i (h : i < l.length), R l[i] (row c (o + i * n) n)
def DeepC (hp : Array Obj) (ok : Nat → Prop) : (t : Ty) → den t → List Value → Prop
  | .unit, _, vs => vs = []
  | .bool, b, vs => vs = [.bool b]
  | .int k, n, vs => vs = [.int k n]
  | .str, s, vs => vs = [.string ⟨s.toArray⟩]
  | .sl t, l, vs => ∃ a cap, vs = [.slice a (List.length l) cap] ∧ List.length l ≤ cap ∧ RowR hp ok (csz t) (DeepC hp ok t) l a
  | .own t, l, vs => ∃ a cap, vs = [.slice a (List.length l) cap] ∧ List.length l ≤ cap ∧ RowR hp ok (csz t) (DeepC hp ok t) l a
  | .pair a b, x, vs => ∃ v1 v2, vs = v1 ++ v2 ∧ DeepC hp ok a x.1 v1 ∧ DeepC hp ok b x.2 v2
  | .one t, x, vs => DeepC hp ok t x vs
  | .fn f, _, vs => vs = [.func (.func f) #[] #[]]
theorem DeepC.length {hp : Array Obj} {ok : Nat → Prop} : ∀ (t : Ty) (x : den t) (vs : List Value), DeepC hp ok t x vs → vs.length = csz t
  | .unit, _, _, h => by cases h; rfl
  | .bool, _, _, h => by cases h; rfl
  | .int _, _, _, h => by cases h; rfl
  | .str, _, _, h => by cases h; rfl
  | .sl _, _, _, h => by obtain ⟨_, _, rfl, _⟩ := h; rfl
  | .own _, _, _, h => by obtain ⟨_, _, rfl, _⟩ := h; rfl
  | .pair a b, x, _, h => by
    obtain ⟨v1, v2, rfl, h1, h2⟩ := h
    simp [csz, DeepC.length a _ _ h1, DeepC.length b _ _ h2]
  | .one t, x, _, h => by simp only [csz]; exact DeepC.length t x _ h
  | .fn _, _, _, h => by cases h; rfl
theorem DeepC.mono {hp hp' : Array Obj} {ok ok' : Nat → Prop} (H : ∀ b, ok b → ok' b ∧ hp'[b]? = hp[b]?) :
    ∀ (t : Ty) (x : den t) (vs : List Value), DeepC hp ok t x vs → DeepC hp' ok' t x vs
  | .unit, _, _, h => h
  | .bool, _, _, h => h
  | .int _, _, _, h => h
  | .str, _, _, h => h
  | .sl t, l, _, h => by
    obtain ⟨a, cap, rfl, hc, hr⟩ := h
    refine ⟨a, cap, rfl, hc, fun hl => ?_⟩
    obtain ⟨b, o, c, e, fr, ha, hok, hb, hi⟩ := hr hl
    exact ⟨b, o, c, e, fr, ha, (H b hok).1, by rw [(H b hok).2]; exact hb, fun i h => DeepC.mono H t _ _ (hi i h)⟩
  | .own t, l, _, h => by
    obtain ⟨a, cap, rfl, hc, hr⟩ := h
    refine ⟨a, cap, rfl, hc, fun hl => ?_⟩
    obtain ⟨b, o, c, e, fr, ha, hok, hb, hi⟩ := hr hl
    exact ⟨b, o, c, e, fr, ha, (H b hok).1, by rw [(H b hok).2]; exact hb, fun i h => DeepC.mono H t _ _ (hi i h)⟩
  | .pair a b, x, _, h => by
    obtain ⟨v1, v2, rfl, h1, h2⟩ := h
    exact ⟨v1, v2, rfl, DeepC.mono H a _ _ h1, DeepC.mono H b _ _ h2⟩
  | .one t, x, _, h => DeepC.mono (ok := ok) H t x _ h
  | .fn _, _, _, h => h
theorem RowR.mono {hp hp' : Array Obj} {ok ok' : Nat → Prop} (H : ∀ b, ok b → ok' b ∧ hp'[b]? = hp[b]?) {t : Ty} {l : List (den t)} {a : Option Addr}
    (h : RowR hp ok (csz t) (DeepC hp ok t) l a) : RowR hp' ok' (csz t) (DeepC hp' ok' t) l a := fun hl => by
  obtain ⟨b, o, c, e, fr, ha, hok, hb, hi⟩ := h hl
  exact ⟨b, o, c, e, fr, ha, (H b hok).1, by rw [(H b hok).2]; exact hb, fun i h => DeepC.mono H t _ _ (hi i h)⟩
structure Cx where
  hp : Array Obj
  fz : Nat → Prop
  m : Nat → Option (Nat × Nat)
  H : Heap
  lp : Option Nat
def AF (H : Heap) (tok : Nat) (t : Ty) (l : List (den t)) : Prop := hget H tok = some (.arr t l) ∨ hget H tok = some (.fro t l)
def Place (x : Cx) (tok : Nat) (t : Ty) (a : Option Addr) (off len cap : Nat) : Prop :=
  (len = 0 ∧ cap = 0) ∨ ∃ b o c e fr, x.m tok = some (b, o) ∧ a = some ⟨b, o + off * csz t, none⟩ ∧ x.hp[b]? = some (Obj.cells c e fr) ∧ o + (off + cap) * csz t ≤ c.size
mutual
inductive RV (x : Cx) : AV → Value → Prop
  | undef (v : Value) : RV x .undef v
  | bool (b : Bool) : RV x (.bool b) (.bool b)
  | int (k : IntKind) (n : Int) : RV x (.int k n) (.int k n)
  | str (s : List UInt8) : RV x (.str s) (.string ⟨s.toArray⟩)
  | sl (t : Ty) (l : List (den t)) (f : Bool) (a : Option Addr) (cap : Nat) : l.length ≤ cap → (f = true → cap = l.length) →
      RowR x.hp x.fz (csz t) (DeepC x.hp x.fz t) l a → RV x (.sl t l f) (.slice a l.length cap)
  | nilsl : RV x .nilsl (.slice none 0 0)
  | who (tok : Nat) (f : Bool) (a : Option Addr) (n cap : Nat) :
      (∀ t l, AF x.H tok t l → n = l.length ∧ n ≤ cap ∧ (f = true → cap = n) ∧ Place x tok t a 0 n cap) → RV x (.who tok f) (.slice a n cap)
  | ref (tok off len : Nat) (f : Bool) (a : Option Addr) (cap : Nat) :
      (∀ t l, AF x.H tok t l → off + len ≤ l.length ∧ len ≤ cap ∧ (f = true → cap = len) ∧ Place x tok t a off len cap) → RV x (.ref tok off len f) (.slice a len cap)
  | ptr (tok off : Nat) (ad : Addr) : (∀ cs, hget x.H tok = some (.box cs) → ∃ b, x.m tok = some (b, 0) ∧ ad = ⟨b, off, none⟩) →
      RV x (.ptr tok off) (.pointer (some ad))
  | eptr (tok i off : Nat) (ad : Addr) : (∀ t l, AF x.H tok t l → i < l.length ∧ ∃ b o, x.m tok = some (b, o) ∧ ad = ⟨b, o + i * csz t + off, none⟩) →
      RV x (.eptr tok i off) (.pointer (some ad))
  | aptr (tok off n : Nat) (t : Ty) (i : Nat) (ad : Addr) : i < n → (∀ cs, hget x.H tok = some (.box cs) → ∃ b, x.m tok = some (b, 0) ∧ ad = ⟨b, off + i * csz t, none⟩) →
      RV x (.aptr tok off n t i) (.pointer (some ad))
  | rptr (t : Ty) (y : den t) (off b o : Nat) (c : Array Value) (e : TypeId) (fr : Nat × Nat) : x.fz b → x.hp[b]? = some (Obj.cells c e fr) →
      DeepC x.hp x.fz t y (row c o (csz t)) → RV x (.rptr t y off) (.pointer (some ⟨b, o + off, none⟩))
  | func (f : Nat) (as bs : List AV) (vs us : List Value) : RVL x as vs → RVL x bs us → RV x (.func f as bs) (.func (.func f) vs.toArray us.toArray)
  | agg (cs : List AV) (vs : List Value) : RVL x cs vs → RV x (.agg cs) (.agg vs.toArray)
  | tup (cs : List AV) (vs : List Value) : RVL x cs vs → RV x (.tup cs) (.tuple vs.toArray)
  | cst (v : Value) : RV x (.cst v) v
  | yld (l : Nat) : x.lp = some l → RV x .yld (.func (.yield l) #[] #[])
  | husk (t : Ty) (n : Nat) (a : Option Addr) (cap : Nat) : RV x (.husk t n) (.slice a n cap)
  | maybe (b : Bool) : RV x .maybe (.bool b)
inductive RVL (x : Cx) : List AV → List Value → Prop
  | nil : RVL x [] []
  | cons (c : AV) (v : Value) (cs : List AV) (vs : List Value) : RV x c v → RVL x cs vs → RVL x (c :: cs) (v :: vs)
end
theorem RVL.length {x : Cx} : ∀ {cs : List AV} {vs : List Value}, RVL x cs vs → cs.length = vs.length
  | _, _, .nil => rfl
  | _, _, .cons _ _ _ _ _ h => by simp [RVL.length h]
theorem RVL.append {x : Cx} : ∀ {cs ds : List AV} {vs us : List Value}, RVL x cs vs → RVL x ds us → RVL x (cs ++ ds) (vs ++ us)
  | _, _, _, _, .nil, h => h
  | _, _, _, _, .cons _ _ _ _ h1 h, k => .cons _ _ _ _ h1 (RVL.append h k)
theorem RVL.drop {x : Cx} : ∀ (n : Nat) {cs : List AV} {vs : List Value}, RVL x cs vs → RVL x (cs.drop n) (vs.drop n)
  | 0, _, _, h => h
  | n + 1, _, _, .nil => .nil
  | n + 1, _, _, .cons _ _ _ _ _ h => RVL.drop n h
theorem RVL.take {x : Cx} : ∀ (n : Nat) {cs : List AV} {vs : List Value}, RVL x cs vs → RVL x (cs.take n) (vs.take n)
  | 0, _, _, h => .nil
  | n + 1, _, _, .nil => .nil
  | n + 1, _, _, .cons _ _ _ _ h1 h => .cons _ _ _ _ h1 (RVL.take n h)
theorem RVL.get {x : Cx} : ∀ (i : Nat) {cs : List AV} {vs : List Value} {c : AV}, RVL x cs vs → cs[i]? = some c → ∃ v, vs[i]? = some v ∧ RV x c v
  | _, _, _, _, .nil, h => by simp at h
  | 0, _, _, _, .cons _ _ _ _ h1 _, h => by simp at h; subst h; exact ⟨_, rfl, h1⟩
  | i + 1, _, _, _, .cons _ _ _ _ _ h2, h => by simp at h; obtain ⟨v, hv, hr⟩ := RVL.get i h2 h; exact ⟨v, by simpa using hv, hr⟩
theorem cells_RVL {x : Cx} : ∀ (t : Ty) (y : den t) (vs : List Value), DeepC x.hp x.fz t y vs → RVL x (cellsOf t y) vs
  | .unit, _, _, h => by cases h; exact .nil
  | .bool, _, _, h => by cases h; exact .cons _ _ _ _ (.bool _) .nil
  | .int _, _, _, h => by cases h; exact .cons _ _ _ _ (.int _ _) .nil
  | .str, _, _, h => by cases h; exact .cons _ _ _ _ (.str _) .nil
  | .sl t, l, _, h => by
    obtain ⟨a, cap, rfl, hc, hr⟩ := h
    exact .cons _ _ _ _ (.sl t l false a cap hc (by simp) hr) .nil
  | .own t, l, _, h => by
    obtain ⟨a, cap, rfl, hc, hr⟩ := h
    exact .cons _ _ _ _ (.sl t l false a cap hc (by simp) hr) .nil
  | .pair a b, y, _, h => by
    obtain ⟨v1, v2, rfl, h1, h2⟩ := h
    exact RVL.append (cells_RVL a _ _ h1) (cells_RVL b _ _ h2)
  | .one t, y, _, h => cells_RVL t y _ h
  | .fn f, _, _, h => by cases h; exact .cons _ _ _ _ (.func f [] [] [] [] .nil .nil) .nil
def SameSizes (hp hp' : Array Obj) : Prop := ∀ (b : Nat) c e fr, hp[b]? = some (Obj.cells c e fr) → ∃ c' e' fr', hp'[b]? = some (Obj.cells c' e' fr') ∧ c'.size = c.size
structure Ext (x x' : Cx) (S : Nat → Prop) : Prop where
  fz : ∀ b, x.fz b → x'.fz b ∧ x'.hp[b]? = x.hp[b]?
  sizes : SameSizes x.hp x'.hp
  af : ∀ T, S T → ∀ t l', AF x'.H T t l' → ∃ l, AF x.H T t l ∧ l.length = l'.length ∧ x'.m T = x.m T
  box : ∀ T, S T → ∀ cs', hget x'.H T = some (.box cs') → ∃ cs, hget x.H T = some (.box cs) ∧ x'.m T = x.m T
  lp : S yTok → x'.lp = x.lp
theorem SameSizes.refl (hp : Array Obj) : SameSizes hp hp := fun _ c e fr h => ⟨c, e, fr, h, rfl⟩
theorem SameSizes.trans {a b c : Array Obj} (h : SameSizes a b) (k : SameSizes b c) : SameSizes a c := fun i c e fr hi => by
  obtain ⟨c', e', fr', h1, h2⟩ := h i c e fr hi
  obtain ⟨c'', e'', fr'', h3, h4⟩ := k i c' e' fr' h1
  exact ⟨c'', e'', fr'', h3, h4.trans h2⟩
structure Bel (N : Nat → Prop) (w w' : World) : Prop where
  os : w'.os = w.os
  tape : w'.tape = w.tape
  output : w'.output = w.output
  size : w.heap.size ≤ w'.heap.size
  block : ∀ k, ¬ N k → w'.heap[k]? = w.heap[k]?
  sizes : SameSizes w.heap w'.heap
theorem Bel.refl (N : Nat → Prop) (w : World) : Bel N w w := ⟨rfl, rfl, rfl, Nat.le_refl _, fun _ _ => rfl, .refl _⟩
theorem Bel.trans {N : Nat → Prop} {a b c : World} (h : Bel N a b) (k : Bel N b c) : Bel N a c :=
  ⟨k.os.trans h.os, k.tape.trans h.tape, k.output.trans h.output, Nat.le_trans h.size k.size, fun i hi => (k.block i hi).trans (h.block i hi), h.sizes.trans k.sizes⟩
theorem Bel.mono {N N' : Nat → Prop} {w w' : World} (h : Bel N w w') (hN : ∀ k, N k → N' k) : Bel N' w w' := ⟨h.os, h.tape, h.output, h.size, fun k hk => h.block k fun h' => hk (hN k h'), h.sizes⟩
theorem Bel.of {w w' : World} (h : Below w.heap.size w w') : Bel (fun k => w.heap.size ≤ k) w w' :=
  ⟨h.os, h.tape, h.output, h.size, fun k hk => h.block k (by omega), fun b c e fr hb => ⟨c, e, fr, by rw [h.block b (Array.getElem?_eq_some_iff.1 hb).1]; exact hb, rfl⟩⟩
theorem Bel.to {B : Nat} {w w' : World} (h : Bel (fun k => B ≤ k) w w') : Below B w w' := ⟨h.os, h.tape, h.output, h.size, fun k hk => h.block k (by omega)⟩
theorem Ext.refl (x : Cx) (S : Nat → Prop) : Ext x x S :=
  ⟨fun _ h => ⟨h, rfl⟩, .refl _, fun _ _ _ l h => ⟨l, h, rfl, rfl⟩, fun _ _ cs h => ⟨cs, h, rfl⟩, fun _ => rfl⟩
theorem Ext.trans {x y z : Cx} {S : Nat → Prop} (h : Ext x y S) (k : Ext y z S) : Ext x z S := by
  refine ⟨fun b hb => ?_, h.sizes.trans k.sizes, fun T hT t l' ha => ?_, fun T hT cs ha => ?_, fun hT => (k.lp hT).trans (h.lp hT)⟩
  · obtain ⟨h1, h2⟩ := h.fz b hb
    obtain ⟨h3, h4⟩ := k.fz b h1
    exact ⟨h3, h4.trans h2⟩
  · obtain ⟨l1, h1, h2, h3⟩ := k.af T hT t l' ha
    obtain ⟨l2, h4, h5, h6⟩ := h.af T hT t l1 h1
    exact ⟨l2, h4, h5.trans h2, h3.trans h6⟩
  · obtain ⟨c1, h1, h3⟩ := k.box T hT cs ha
    obtain ⟨c2, h4, h6⟩ := h.box T hT c1 h1
    exact ⟨c2, h4, h3.trans h6⟩
theorem Ext.weaken {x y : Cx} {S S' : Nat → Prop} (h : Ext x y S) (k : ∀ T, S' T → S T) : Ext x y S' :=
  ⟨h.fz, h.sizes, fun T hT => h.af T (k T hT), fun T hT => h.box T (k T hT), fun hT => h.lp (k _ hT)⟩
theorem Place.mono {x x' : Cx} {S : Nat → Prop} (E : Ext x x' S) {tok : Nat} {t : Ty} {a : Option Addr} {off len cap : Nat} (hm : x'.m tok = x.m tok)
    (h : Place x tok t a off len cap) : Place x' tok t a off len cap := by
  rcases h with h | ⟨b, o, c, e, fr, h1, h2, h3, h4⟩
  · exact .inl h
  · obtain ⟨c', e', fr', h5, h6⟩ := E.sizes b c e fr h3
    exact .inr ⟨b, o, c', e', fr', hm.trans h1, h2, h5, by omega⟩
mutual
theorem RV.mono {x x' : Cx} {S : Nat → Prop} (E : Ext x x' S) : ∀ {v : AV} {w : Value}, RV x v w → (∀ T ∈ toks v, S T) → RV x' v w
  | _, _, .undef v, _ => .undef v
  | _, _, .bool b, _ => .bool b
  | _, _, .int k n, _ => .int k n
  | _, _, .str s, _ => .str s
  | _, _, .sl t l f a cap h1 h2 h3, _ => .sl t l f a cap h1 h2 (RowR.mono E.fz h3)
  | _, _, .nilsl, _ => .nilsl
  | _, _, .who tok f a n cap h, hS => .who tok f a n cap fun t l' ha => by
    obtain ⟨l, hl, he, hm⟩ := E.af tok (hS tok (by simp [toks])) t l' ha
    obtain ⟨h1, h2, h3, h4⟩ := h t l hl
    exact ⟨h1.trans he, h2, h3, h4.mono E hm⟩
  | _, _, .ref tok off len f a cap h, hS => .ref tok off len f a cap fun t l' ha => by
    obtain ⟨l, hl, he, hm⟩ := E.af tok (hS tok (by simp [toks])) t l' ha
    obtain ⟨h1, h2, h3, h4⟩ := h t l hl
    exact ⟨by omega, h2, h3, h4.mono E hm⟩
  | _, _, .ptr tok off ad h, hS => .ptr tok off ad fun cs hc => by
    obtain ⟨cs', h1, h2⟩ := E.box tok (hS tok (by simp [toks])) cs hc
    obtain ⟨b, h3, h4⟩ := h cs' h1
    exact ⟨b, h2.trans h3, h4⟩
  | _, _, .aptr tok off n t i ad hi h, hS => .aptr tok off n t i ad hi fun cs hc => by
    obtain ⟨cs', h1, h2⟩ := E.box tok (hS tok (by simp [toks])) cs hc
    obtain ⟨b, h3, h4⟩ := h cs' h1
    exact ⟨b, h2.trans h3, h4⟩
  | _, _, .eptr tok i off ad h, hS => .eptr tok i off ad fun t l' ha => by
    obtain ⟨l, hl, he, hm⟩ := E.af tok (hS tok (by simp [toks])) t l' ha
    obtain ⟨h1, b, o, h2, h3⟩ := h t l hl
    exact ⟨by omega, b, o, hm.trans h2, h3⟩
  | _, _, .rptr t y off b o c e fr h1 h2 h3, _ => .rptr t y off b o c e fr (E.fz b h1).1 (by rw [(E.fz b h1).2]; exact h2) (DeepC.mono E.fz t y _ h3)
  | _, _, .func f as bs vs us h1 h2, hS => .func f as bs vs us (RVL.mono E h1 fun T hT => hS T (by simp [toks, hT])) (RVL.mono E h2 fun T hT => hS T (by simp [toks, hT]))
  | _, _, .agg cs vs h, hS => .agg cs vs (RVL.mono E h fun T hT => hS T (by simpa [toks] using hT))
  | _, _, .tup cs vs h, hS => .tup cs vs (RVL.mono E h fun T hT => hS T (by simpa [toks] using hT))
  | _, _, .cst v, _ => .cst v
  | _, _, .husk t n a cap, _ => .husk t n a cap
  | _, _, .maybe b, _ => .maybe b
  | _, _, .yld l h, hS => .yld l ((E.lp (hS yTok (by simp [toks]))).trans h)
theorem RVL.mono {x x' : Cx} {S : Nat → Prop} (E : Ext x x' S) : ∀ {v : List AV} {w : List Value}, RVL x v w → (∀ T ∈ toksL v, S T) → RVL x' v w
  | _, _, .nil, _ => .nil
  | _, _, .cons c v cs vs h1 h2, hS => .cons c v cs vs (RV.mono E h1 fun T hT => hS T (by simp [toksL, hT])) (RVL.mono E h2 fun T hT => hS T (by simp [toksL, hT]))
end
def Unfrozen (c : Array Value) (fr : Nat × Nat) : Prop := ∀ o, o < c.size → ¬ (fr.1 ≤ o ∧ o < fr.2)
def BlkR (x : Cx) (n0 : Nat → Prop) (tok : Nat) : Blk → Prop
  | .arr t l => (l = [] ∧ x.m tok = none) ∨ ∃ b o c e fr, x.m tok = some (b, o) ∧ x.hp[b]? = some (Obj.cells c e fr) ∧ n0 b ∧ ¬ x.fz b ∧ Unfrozen c fr ∧
      o + l.length * csz t ≤ c.size ∧ ∀ i (h : i < l.length), DeepC x.hp x.fz t l[i] (row c (o + i * csz t) (csz t))
  | .fro t l => (l = [] ∧ x.m tok = none) ∨ ∃ b o c e fr, x.m tok = some (b, o) ∧ x.hp[b]? = some (Obj.cells c e fr) ∧ x.fz b ∧
      o + l.length * csz t ≤ c.size ∧ ∀ i (h : i < l.length), DeepC x.hp x.fz t l[i] (row c (o + i * csz t) (csz t))
  | .box cs => ∃ b c e fr, x.m tok = some (b, 0) ∧ x.hp[b]? = some (Obj.cells c e fr) ∧ n0 b ∧ ¬ x.fz b ∧ Unfrozen c fr ∧ True ∧ RVL x cs c.toList
def Owns (x : Cx) (tok b : Nat) : Prop :=
  (∃ o, x.m tok = some (b, o)) ∧ ((∃ t l, hget x.H tok = some (.arr t l)) ∨ ∃ cs, hget x.H tok = some (.box cs))
structure HR (x : Cx) (n0 : Nat → Prop) : Prop where
  blk : ∀ tok b, hget x.H tok = some b → BlkR x n0 tok b
  inj : ∀ t1 t2 b, Owns x t1 b → Owns x t2 b → t1 = t2
  size : ∀ b, x.fz b → b < x.hp.size
end Go.Proofs.YtpdfjgooaaailaaGreatDoor.K
namespace Go.Proofs.YtpdfjgooaaailaaGreatDoor.K
open Go
open Go.RowKit (Below)
theorem beq_true {u t : Nat} (h : Nat.beq u t = true) : u = t := Nat.eq_of_beq_eq_true h
theorem beq_false {u t : Nat} (h : Nat.beq u t = false) : u ≠ t := Nat.ne_of_beq_eq_false h
theorem beq_self (t : Nat) : Nat.beq t t = true := Nat.beq_refl t
theorem beq_ne {u t : Nat} (h : u ≠ t) : Nat.beq u t = false := by
  cases hb : Nat.beq u t with
  | false => rfl
  | true => exact absurd (beq_true hb) h
theorem get_put (e : Env) (t u : Nat) (v : AV) : get (put e t v) u = if u = t then v else get e u := by
  induction e with
  | nil =>
    simp only [put, get]
    by_cases h : t = u
    · subst h; simp [beq_self]
    · simp [beq_ne h, Ne.symm h]
  | cons p e ih =>
    obtain ⟨s, x⟩ := p
    simp only [put]
    by_cases h : s = t
    · subst h
      simp only [beq_self, get]
      by_cases k : s = u
      · subst k; simp [beq_self]
      · simp [beq_ne k, Ne.symm k]
    · simp only [beq_ne h, get]
      by_cases k : s = u
      · subst k; simp [beq_self, h]
      · simp only [beq_ne k]; exact ih
theorem hget_hput (e : Heap) (t u : Nat) (v : Blk) : hget (hput e t v) u = if u = t then some v else hget e u := by
  induction e with
  | nil =>
    simp only [hput, hget]
    by_cases h : t = u
    · subst h; simp [beq_self]
    · simp [beq_ne h, Ne.symm h]
  | cons p e ih =>
    obtain ⟨s, x⟩ := p
    simp only [hput]
    by_cases h : s = t
    · subst h
      simp only [beq_self, hget]
      by_cases k : s = u
      · subst k; simp [beq_self]
      · simp [beq_ne k, Ne.symm k]
    · simp only [beq_ne h, hget]
      by_cases k : s = u
      · subst k; simp [beq_self, h]
      · simp only [beq_ne k]; exact ih
theorem hget_hdel (e : Heap) (t u : Nat) : hget (hdel e t) u = if u = t then none else hget e u := by
  induction e with
  | nil => simp [hdel, hget]
  | cons p e ih =>
    obtain ⟨s, x⟩ := p
    simp only [hdel]
    by_cases h : s = t
    · subst h
      simp only [beq_self, hget, ih]
      by_cases k : s = u
      · subst k; simp
      · simp [beq_ne k, Ne.symm k]
    · simp only [beq_ne h, hget, ih]
      by_cases k : s = u
      · subst k; simp [beq_self, h]
      · simp [beq_ne k]
def frz (b : Bool) : Blk → Blk
  | .arr t l => match b with
    | true => .fro t l
    | false => .arr t l
  | x => x
theorem hget_freeze (ts : List Nat) (e : Heap) (u : Nat) : hget (freeze ts e) u = (hget e u).map (frz (ts.elem u)) := by
  induction e with
  | nil => simp [freeze, hget]
  | cons p e ih =>
    obtain ⟨s, x⟩ := p
    simp only [freeze, hget]
    by_cases h : s = u
    · subst h
      simp only [beq_self, Option.map_some, Option.some.injEq]
      cases x <;> simp only [frz]
      all_goals (cases List.elem s ts <;> rfl)
    · simp only [beq_ne h]; exact ih
theorem AF_freeze {ts : List Nat} {e : Heap} {u : Nat} {t : Ty} {l : List (den t)} (h : AF (freeze ts e) u t l) : AF e u t l := by
  unfold AF at *
  rw [hget_freeze] at h
  cases hg : hget e u with
  | none => simp [hg] at h
  | some b =>
    cases b with
    | arr t' l' =>
      simp only [hg, Option.map_some, frz] at h
      rcases h with h | h
      · split at h
        · simp at h
        · left; exact h
      · split at h
        · left; simpa using h
        · simp at h
    | fro t' l' => simp only [hg, Option.map_some, frz] at h; right; simpa using h
    | box cs => simp [hg, frz] at h
theorem box_freeze {ts : List Nat} {e : Heap} {u : Nat} {cs : List AV} (h : hget (freeze ts e) u = some (.box cs)) : hget e u = some (.box cs) := by
  rw [hget_freeze] at h
  cases hg : hget e u with
  | none => simp [hg] at h
  | some b =>
    cases b with
    | arr t' l' => simp only [hg, Option.map_some, frz] at h; split at h <;> simp at h
    | fro t' l' => simp [hg, frz] at h
    | box cs => simpa [hg, frz] using h
theorem AF.unique {H : Heap} {u : Nat} {t t' : Ty} {l : List (den t)} {l' : List (den t')} (h : AF H u t l) (h' : AF H u t' l') : t = t' ∧ HEq l l' := by
  rcases h with h | h <;> rcases h' with h' | h' <;> rw [h] at h' <;> simp at h'
  · obtain ⟨rfl, h⟩ := h'; exact ⟨rfl, h⟩
  · obtain ⟨rfl, h⟩ := h'; exact ⟨rfl, h⟩
theorem toks_get (e : Env) (t : Nat) : ∀ T ∈ toks (get e t), T ∈ envToks e := by
  induction e with
  | nil => intro T h; simp [get, toks] at h
  | cons p e ih =>
    obtain ⟨s, x⟩ := p
    intro T h
    simp only [get] at h
    simp only [envToks, List.flatMap_cons, List.mem_append]
    split at h
    · exact .inl h
    · exact .inr (ih T h)
theorem toks_hget (e : Heap) (t : Nat) (b : Blk) (h : hget e t = some b) : t ∈ heapToks e ∧ ∀ T ∈ blkToks b, T ∈ heapToks e := by
  induction e with
  | nil => simp [hget] at h
  | cons p e ih =>
    obtain ⟨s, x⟩ := p
    simp only [hget] at h
    simp only [heapToks, List.flatMap_cons, List.mem_append, List.mem_cons]
    split at h
    · rename_i hb
      simp only [Option.some.injEq] at h; subst h
      have := beq_true hb; subst this
      exact ⟨.inl (.inl rfl), fun T hT => .inl (.inr hT)⟩
    · obtain ⟨h1, h2⟩ := ih h
      exact ⟨.inr h1, fun T hT => .inr (h2 T hT)⟩
def Shows (x : Cx) (fz' : Nat → Prop) (ts : List Nat) : Prop :=
  ∀ T ∈ ts, ∀ t l, AF x.H T t l → ∀ b o, x.m T = some (b, o) → fz' b
theorem af_deep {x : Cx} {n0 : Nat → Prop} (hr : HR x n0) {tok : Nat} {t : Ty} {l : List (den t)} (h : AF x.H tok t l) :
    (l = [] ∧ x.m tok = none) ∨ ∃ b o c e fr, x.m tok = some (b, o) ∧ x.hp[b]? = some (Obj.cells c e fr) ∧ o + l.length * csz t ≤ c.size ∧
      ∀ i (h : i < l.length), DeepC x.hp x.fz t l[i] (row c (o + i * csz t) (csz t)) := by
  rcases h with h | h
  · rcases hr.blk tok _ h with h | ⟨b, o, c, e, fr, h1, h2, h3, h4, h5, h6, h7⟩
    · exact .inl h
    · exact .inr ⟨b, o, c, e, fr, h1, h2, h6, h7⟩
  · rcases hr.blk tok _ h with h | ⟨b, o, c, e, fr, h1, h2, h3, h4, h5⟩
    · exact .inl h
    · exact .inr ⟨b, o, c, e, fr, h1, h2, h4, h5⟩
theorem af_row {x : Cx} {n0 : Nat → Prop} (hr : HR x n0) {fz' : Nat → Prop} (hf : ∀ b, x.fz b → fz' b) {tok : Nat} {t : Ty} {l : List (den t)} (h : AF x.H tok t l)
    (hs : ∀ b o, x.m tok = some (b, o) → fz' b) {a : Option Addr} {off len cap : Nat} (hlen : off + len ≤ l.length) (hp : Place x tok t a off len cap) :
    RowR x.hp fz' (csz t) (DeepC x.hp fz' t) ((l.drop off).take len) a := by
  intro hne
  have hn : len ≠ 0 := by
    rintro rfl; simp at hne
  rcases hp with ⟨h0, _⟩ | ⟨b, o, c, e, fr, h1, h2, h3, h4⟩
  · exact absurd h0 hn
  rcases af_deep hr h with ⟨_, h5⟩ | ⟨b', o', c', e', fr', h5, h6, h7, h8⟩
  · rw [h1] at h5; simp at h5
  rw [h1] at h5; simp only [Option.some.injEq, Prod.mk.injEq] at h5
  obtain ⟨rfl, rfl⟩ := h5
  rw [h3] at h6; simp only [Option.some.injEq, Obj.cells.injEq] at h6
  obtain ⟨rfl, rfl, rfl⟩ := h6
  refine ⟨b, o + off * csz t, c, e, fr, h2, hs b o h1, h3, fun i hi => ?_⟩
  have hi' : i < len := by simp at hi; omega
  have := DeepC.mono (fun b hb => ⟨hf b hb, rfl⟩) t _ _ (h8 (off + i) (by omega))
  have e1 : o + off * csz t + i * csz t = o + (off + i) * csz t := by rw [Nat.add_mul]; omega
  rw [e1]
  simpa using this
theorem ofCell_deep {x : Cx} {n0 : Nat → Prop} (hr : HR x n0) {fz' : Nat → Prop} (hf : ∀ b, x.fz b → fz' b) {c : AV} {v : Value} (h : RV x c v)
    (hs : Shows x fz' (toks c)) {t : Ty} {y : den t} (ho : ofCell t (deep x.H c) = some y) (hu : t ≠ .unit) : DeepC x.hp fz' t y [v] := by
  have key : ∀ (t' : Ty) (l : List (den t')) (f : Bool) (a : Option Addr) (cap : Nat), l.length ≤ cap → RowR x.hp fz' (csz t') (DeepC x.hp fz' t') l a →
      ofCell t (.sl t' l f) = some y → DeepC x.hp fz' t y [.slice a l.length cap] := by
    intro t' l f a cap hc hrow ho
    cases t <;> simp only [ofCell] at ho <;> try (simp at ho; done)
    · split at ho
      · rename_i he; subst he; simp only [Option.some.injEq] at ho; subst ho; exact ⟨a, cap, rfl, hc, hrow⟩
      · simp at ho
    · split at ho
      · rename_i he; subst he; simp only [Option.some.injEq] at ho; subst ho; exact ⟨a, cap, rfl, hc, hrow⟩
      · simp at ho
  cases h with
  | undef => cases t <;> simp [deep, ofCell] at ho
  | bool b => cases t <;> simp [deep, ofCell] at ho; subst ho; rfl
  | int k n =>
    cases t <;> simp only [deep, ofCell] at ho <;> try (simp at ho; done)
    split at ho
    · rename_i he; subst he; simp at ho; subst ho; rfl
    · simp at ho
  | str s => cases t <;> simp [deep, ofCell] at ho; subst ho; rfl
  | sl t' l f a cap h1 h2 h3 => exact key t' l f a cap h1 (RowR.mono (fun b hb => ⟨hf b hb, rfl⟩) h3) (by simpa [deep] using ho)
  | nilsl =>
    cases t <;> simp [deep, ofCell] at ho
    · subst ho; exact ⟨none, 0, rfl, Nat.le_refl _, fun h => absurd rfl h⟩
    · subst ho; exact ⟨none, 0, rfl, Nat.le_refl _, fun h => absurd rfl h⟩
  | who tok f a n cap h =>
    have go : ∀ (t' : Ty) (l : List (den t')), AF x.H tok t' l → ofCell t (.sl t' l false) = some y → DeepC x.hp fz' t y [.slice a n cap] := by
      intro t' l ha ho
      obtain ⟨h1, h2, h3, h4⟩ := h t' l ha
      subst h1
      have := af_row hr hf ha (fun b o hm => hs tok (by simp [toks]) t' l ha b o hm) (off := 0) (len := l.length) (by simp) h4
      simp only [List.drop_zero, List.take_length] at this
      exact key t' l false a cap h2 this ho
    simp only [deep] at ho
    split at ho
    · rename_i t' l hg; exact go t' l (.inl hg) ho
    · rename_i t' l hg; exact go t' l (.inr hg) ho
    · cases t <;> simp [ofCell] at ho
  | ref tok off len f a cap h =>
    have go : ∀ (t' : Ty) (l : List (den t')), AF x.H tok t' l → ofCell t (.sl t' ((l.drop off).take len) false) = some y → DeepC x.hp fz' t y [.slice a len cap] := by
      intro t' l ha ho
      obtain ⟨h1, h2, h3, h4⟩ := h t' l ha
      have hlen : ((l.drop off).take len).length = len := by simp; omega
      have := af_row hr hf ha (fun b o hm => hs tok (by simp [toks]) t' l ha b o hm) (off := off) (len := len) h1 h4
      have k := key t' ((l.drop off).take len) false a cap (by rw [hlen]; exact h2) this ho
      rwa [hlen] at k
    simp only [deep] at ho
    split at ho
    · rename_i t' l hg; exact go t' l (.inl hg) ho
    · rename_i t' l hg; exact go t' l (.inr hg) ho
    · cases t <;> simp [ofCell] at ho
  | ptr => cases t <;> simp [deep, ofCell] at ho
  | eptr => cases t <;> simp [deep, ofCell] at ho
  | aptr => cases t <;> simp [deep, ofCell] at ho
  | rptr => cases t <;> simp [deep, ofCell] at ho
  | yld => cases t <;> simp [deep, ofCell] at ho
  | husk => cases t <;> simp [deep, ofCell] at ho
  | maybe => cases t <;> simp [deep, ofCell] at ho
  | func f as bs vs us h1 h2 =>
    cases t with
    | fn g =>
      cases as with
      | cons _ _ => simp [deep, ofCell] at ho
      | nil =>
        cases bs with
        | cons _ _ => simp [deep, ofCell] at ho
        | nil =>
          cases h1; cases h2
          simp only [deep, ofCell] at ho
          split at ho
          · rename_i hb; have := beq_true hb; subst this; rfl
          · simp at ho
    | _ => simp [deep, ofCell] at ho
  | agg => cases t <;> simp [deep, ofCell] at ho
  | tup => cases t <;> simp [deep, ofCell] at ho
  | cst => cases t <;> simp [deep, ofCell] at ho
theorem ofCells_deep {x : Cx} {n0 : Nat → Prop} (hr : HR x n0) {fz' : Nat → Prop} (hf : ∀ b, x.fz b → fz' b) : ∀ (t : Ty) {cs : List AV} {vs : List Value} {y : den t} {rest : List AV},
    RVL x cs vs → Shows x fz' (toksL cs) → ofCells t (cs.map (deep x.H)) = some (y, rest) →
    ∃ vs1 vs2 cs2, vs = vs1 ++ vs2 ∧ DeepC x.hp fz' t y vs1 ∧ rest = cs2.map (deep x.H) ∧ RVL x cs2 vs2 ∧ (∀ T ∈ toksL cs2, T ∈ toksL cs) := by
  intro t
  induction t with
  | unit => intro cs vs y rest h hs ho; simp [ofCells] at ho; subst ho; exact ⟨[], vs, cs, rfl, rfl, rfl, h, fun _ h => h⟩
  | pair a b iha ihb =>
    intro cs vs y rest h hs ho
    simp only [ofCells] at ho
    split at ho
    · rename_i y1 r1 h1
      split at ho
      · rename_i y2 r2 h2
        simp only [Option.some.injEq, Prod.mk.injEq] at ho
        obtain ⟨rfl, rfl⟩ := ho
        obtain ⟨v1, v2, c2, rfl, d1, rfl, k2, t2⟩ := iha h hs h1
        obtain ⟨v3, v4, c4, rfl, d3, rfl, k4, t4⟩ := ihb k2 (fun T hT => hs T (t2 T hT)) h2
        exact ⟨v1 ++ v3, v4, c4, by simp, ⟨v1, v3, rfl, d1, d3⟩, rfl, k4, fun T hT => t2 T (t4 T hT)⟩
      · simp at ho
    · simp at ho
  | one t ih => intro cs vs y rest h hs ho; exact ih h hs ho
  | _ =>
    intro cs vs y rest h hs ho
    cases h with
    | nil => simp [ofCells] at ho
    | cons c v cs vs h1 h2 =>
      simp only [List.map_cons, ofCells] at ho
      split at ho
      · rename_i y' hy
        obtain ⟨e1, e2⟩ := Prod.mk.inj (Option.some.inj ho)
        subst e1; subst e2
        exact ⟨[v], vs, cs, rfl, ofCell_deep hr hf h1 (fun T hT => hs T (by simp [toksL, hT])) hy (by simp), rfl, h2, fun T hT => by simp [toksL, hT]⟩
      · simp at ho
def DenV (hp : Array Obj) (ok : Nat → Prop) (t : Ty) (y : den t) (v : Value) : Prop :=
  match isAgg t with
  | true => ∃ vs : List Value, v = .agg vs.toArray ∧ DeepC hp ok t y vs
  | false => t ≠ .unit ∧ DeepC hp ok t y [v]
theorem toDen_deep {x : Cx} {n0 : Nat → Prop} (hr : HR x n0) {fz' : Nat → Prop} (hf : ∀ b, x.fz b → fz' b) {t : Ty} {c : AV} {v : Value} {y : den t}
    (h : RV x c v) (hs : Shows x fz' (toks c)) (ho : toDen x.H t c = some y) : DenV x.hp fz' t y v := by
  unfold toDen at ho
  unfold DenV
  split at ho
  · rename_i c cs hag
    rw [hag]
    cases h with
    | agg cs vs h =>
      split at ho
      · rename_i y' hy
        simp only [Option.some.injEq] at ho; subst ho
        obtain ⟨v1, v2, c2, rfl, d1, hr2, k2, _⟩ := ofCells_deep hr hf t h (by simpa [toks] using hs) hy
        cases c2 with
        | cons _ _ => simp at hr2
        | nil => cases k2; simp only [List.append_nil]; exact ⟨v1, rfl, d1⟩
      · simp at ho
  · rename_i hag
    rw [hag]
    cases t <;> simp only [isAgg] at hag <;> first
      | (simp at hag; done)
      | (simp at ho; done)
      | exact ⟨by simp, ofCell_deep hr hf h hs ho (by simp)⟩
  · simp at ho
theorem ofDen_RV {x : Cx} {t : Ty} {y : den t} {v : Value} (h : DenV x.hp x.fz t y v) : RV x (ofDen t y) v := by
  unfold DenV at h
  cases t with
  | unit => simp [isAgg] at h
  | bool => obtain ⟨_, h⟩ := h; simp only [DeepC, List.cons.injEq, and_true] at h; subst h; exact .bool _
  | int => obtain ⟨_, h⟩ := h; simp only [DeepC, List.cons.injEq, and_true] at h; subst h; exact .int _ _
  | str => obtain ⟨_, h⟩ := h; simp only [DeepC, List.cons.injEq, and_true] at h; subst h; exact .str _
  | sl t =>
    obtain ⟨_, a, cap, h1, h2, h3⟩ := h
    simp only [List.cons.injEq, and_true] at h1; subst h1
    exact .sl t y false a cap h2 (by simp) h3
  | own t =>
    obtain ⟨_, a, cap, h1, h2, h3⟩ := h
    simp only [List.cons.injEq, and_true] at h1; subst h1
    exact .sl t y false a cap h2 (by simp) h3
  | pair a b => obtain ⟨vs, rfl, h⟩ := h; exact .agg _ _ (cells_RVL (.pair a b) y vs h)
  | one t => obtain ⟨vs, rfl, h⟩ := h; exact .agg _ _ (cells_RVL t y vs h)
  | fn f => obtain ⟨_, h⟩ := h; simp only [DeepC, List.cons.injEq, and_true] at h; subst h; exact .func f [] [] [] [] .nil .nil
def DenL (hp : Array Obj) (ok : Nat → Prop) : (ts : List Ty) → den (tyL ts) → List Value → Prop
  | [], _, vs => vs = []
  | [t], x, vs => ∃ v, vs = [v] ∧ DenV hp ok t x v
  | t :: u :: ts, x, vs => ∃ v vs', vs = v :: vs' ∧ DenV hp ok t x.1 v ∧ DenL hp ok (u :: ts) x.2 vs'
theorem toDenL_01 (H : Heap) (v : AV) (vs : List AV) : toDenL H [] (v :: vs) = none := rfl
theorem toDenL_10 (H : Heap) (t : Ty) : toDenL H [t] [] = none := rfl
theorem toDenL_11 (H : Heap) (t : Ty) (v : AV) : toDenL H [t] [v] = toDen H t v := rfl
theorem toDenL_12 (H : Heap) (t : Ty) (v u : AV) (vs : List AV) : toDenL H [t] (v :: u :: vs) = none := rfl
theorem toDenL_20 (H : Heap) (t u : Ty) (ts : List Ty) : toDenL H (t :: u :: ts) [] = none := rfl
theorem toDenL_22 (H : Heap) (t u : Ty) (ts : List Ty) (v : AV) (vs : List AV) : toDenL H (t :: u :: ts) (v :: vs) = (match toDen H t v with
  | some x => match toDenL H (u :: ts) vs with
    | some y => some (x, y)
    | none => none
  | none => none) := rfl
theorem DenL_0 (hp : Array Obj) (ok : Nat → Prop) (x : den (tyL [])) (vs : List Value) : DenL hp ok [] x vs = (vs = []) := rfl
theorem DenL_1 (hp : Array Obj) (ok : Nat → Prop) (t : Ty) (x : den (tyL [t])) (vs : List Value) : DenL hp ok [t] x vs = ∃ v, vs = [v] ∧ DenV hp ok t x v := rfl
theorem DenL_2 (hp : Array Obj) (ok : Nat → Prop) (t u : Ty) (ts : List Ty) (x : den (tyL (t :: u :: ts))) (vs : List Value) :
  DenL hp ok (t :: u :: ts) x vs = ∃ v vs', vs = v :: vs' ∧ DenV hp ok t x.1 v ∧ DenL hp ok (u :: ts) x.2 vs' := rfl
theorem toDenL_deep {x : Cx} {n0 : Nat → Prop} (hr : HR x n0) {fz' : Nat → Prop} (hf : ∀ b, x.fz b → fz' b) (ts : List Ty) : ∀ {cs : List AV} {vs : List Value} {y : den (tyL ts)},
    RVL x cs vs → Shows x fz' (toksL cs) → toDenL x.H ts cs = some y → DenL x.hp fz' ts y vs := by
  induction ts with
  | nil =>
    intro cs vs y h hs ho
    cases h with
    | nil => rw [DenL_0]
    | cons => rw [toDenL_01] at ho; cases ho
  | cons t ts ih =>
    cases ts with
    | nil =>
      intro cs vs y h hs ho
      cases h with
      | nil => rw [toDenL_10] at ho; cases ho
      | cons c v cs vs h1 h2 =>
        cases h2 with
        | cons => rw [toDenL_12] at ho; cases ho
        | nil =>
          rw [toDenL_11] at ho
          rw [DenL_1]
          exact ⟨v, rfl, toDen_deep hr hf h1 (fun T hT => hs T (by simp [toksL, hT])) ho⟩
    | cons u ts =>
      intro cs vs y h hs ho
      cases h with
      | nil => rw [toDenL_20] at ho; cases ho
      | cons c v cs vs h1 h2 =>
        rw [toDenL_22] at ho
        rw [DenL_2]
        split at ho
        · rename_i y1 hy1
          split at ho
          · rename_i y2 hy2
            have e := Option.some.inj ho
            subst e
            exact ⟨v, vs, rfl, toDen_deep hr hf h1 (fun T hT => hs T (by simp [toksL, hT])) hy1, ih h2 (fun T hT => hs T (by simp [toksL, hT])) hy2⟩
          · cases ho
        · cases ho
theorem ofDenL_RVL {x : Cx} (ts : List Ty) : ∀ {y : den (tyL ts)} {vs : List Value}, DenL x.hp x.fz ts y vs → RVL x (ofDenL ts y) vs := by
  induction ts with
  | nil => intro y vs h; cases h; exact .nil
  | cons t ts ih =>
    cases ts with
    | nil => intro y vs h; obtain ⟨v, rfl, h⟩ := h; exact .cons _ _ _ _ (ofDen_RV h) .nil
    | cons u ts =>
      intro y vs h
      obtain ⟨v, vs, rfl, h1, h2⟩ := h
      exact .cons _ _ _ _ (ofDen_RV h1) (ih h2)
abbrev Xt := Option Nat × List Nat
def marksD (ms : List Nat) : List Deferred := ms.map fun r => { target := .collected r, args := #[] }
def fk (xt : Xt) (f : FuncId) : Frame := { (default : Frame) with fn := f, kind := .normal, roundOf := xt.1 }
def am (xt : Xt) (a : Act) : Act := { tmps := a.tmps, defers := marksD xt.2 ++ a.defers }
def mk (xt : Xt) (f : FuncId) (a : Act) (td : List Item) : Frame := (fk xt f).atR (am xt a) td
def mkRet (xt : Xt) (f : FuncId) (a : Act) (td : List Item) : Frame := { mk xt f a td with mode := .returning }
theorem am_eval (xt : Xt) (a : Act) : (am xt a).eval = a.eval := funext fun c => by cases c <;> rfl
theorem am_put (xt : Xt) (a : Act) (d : Option Nat) (v : Value) : (am xt a).put d v = am xt (a.put d v) := by cases d <;> rfl
section
variable {P : Program} {xt : Xt} {f : FuncId} {a : Act} {k : List Item} {cs : List Frame} {w : World}
theorem k_skip : step P (lone (mk xt f a (.code .skip :: k)) cs w) = .next (lone (mk xt f a k) cs w) := stepR_skip
theorem k_label {l : Nat} : step P (lone (mk xt f a (.code (.label l) :: k)) cs w) = .next (lone (mk xt f a k) cs w) := stepR_label
theorem k_inBlock {id : Nat} : step P (lone (mk xt f a (.inBlock id :: k)) cs w) = .next (lone (mk xt f a k) cs w) := stepR_inBlock
theorem k_seq {x y : Code} : step P (lone (mk xt f a (.code (.seq x y) :: k)) cs w) = .next (lone (mk xt f a (.code x :: .code y :: k)) cs w) := stepR_seq
theorem k_cond {c : Operand} {x y : Code} {t : Bool} (h : a.eval c = .bool t) : step P (lone (mk xt f a (.code (.cond c x y) :: k)) cs w) = .next (lone (mk xt f a (.code (if t then x else y) :: k)) cs w) :=
  stepR_cond ((congrFun (am_eval xt a) c).trans h)
theorem k_block {id : Nat} {c : Code} : step P (lone (mk xt f a (.code (.block id c) :: k)) cs w) = .next (lone (mk xt f a (.code c :: .inBlock id :: k)) cs w) := stepR_block
theorem k_loop {c : Code} : step P (lone (mk xt f a (.code (.loop c) :: k)) cs w) = .next (lone (mk xt f a (.code c :: .inLoop c :: k)) cs w) := stepR_loop
theorem k_inLoop {c : Code} : step P (lone (mk xt f a (.inLoop c :: k)) cs w) = .next (lone (mk xt f a (.code c :: .inLoop c :: k)) cs w) := stepR_inLoop
theorem k_scope {c : Code} : step P (lone (mk xt f a (.code (.scope c) :: k)) cs w) = .next (lone (mk xt f a (.code c :: .inScope c :: k)) cs w) :=
  step_lone_go (by simp [stepG, stepG.exec, mk, Frame.atR])
theorem k_inScope {c : Code} : step P (lone (mk xt f a (.inScope c :: k)) cs w) = .next (lone (mk xt f a k) cs w) :=
  step_lone_go (by simp [stepG, stepG.exec, mk, Frame.atR])
theorem k_exit {id : Nat} {k' : List Item} (h : exitTo id k = some k') : step P (lone (mk xt f a (.code (.exit id) :: k)) cs w) = .next (lone (mk xt f a k') cs w) := stepR_exit h
theorem k_goto {l : Nat} {k' : List Item} (h : gotoIn l k = some k') : step P (lone (mk xt f a (.code (.goto l) :: k)) cs w) = .next (lone (mk xt f a k') cs w) := stepR_goto h
theorem k_ret (hb : xt.1 = none) : step P (lone (mk xt f a (.code .ret :: k)) cs w) = .next (lone (mkRet xt f a (.code .ret :: k)) cs w) := stepR_ret hb
theorem k_end (hb : xt.1 = none) : step P (lone (mk xt f a []) cs w) = .next (lone (mkRet xt f a []) cs w) := stepR_end hb
theorem k_region {ops : Array Oper} {id : Nat} : step P (lone (mk xt f a (.code (.region id ops false) :: k)) cs w) = .next (lone (mk xt f a (.inRegion ops (List.range ops.size) :: k)) cs w) := stepR_region
theorem k_region_draw {ops : Array Oper} {id : Nat} : step P (lone (mk xt f a (.code (.region id ops true) :: k)) cs w) =
    .next (lone (mk xt f a (.inRegion ops (Region.schedule (P.follows .mixedOrders) ops (w.tape w.drawn (.order f id))) :: k)) cs { w with drawn := w.drawn + 1 }) := stepR_region_draw
theorem k_region_end {ops : Array Oper} : step P (lone (mk xt f a (.inRegion ops [] :: k)) cs w) = .next (lone (mk xt f a k) cs w) := stepR_region_end
end
def Fin (P : Program) (R : Ending → World → Prop) (f0 : FuncId) (fr : Frame) (fs : List Frame) (w : World) : Prop :=
  ∀ cs, ∃ e w' fr', R e w' ∧ Comes P (lone fr (fs ++ cs) w) (lone fr' cs w') e ∧ fr'.fn = f0 ∧ fr'.leaving P w' e
section
variable {P : Program} {R : Ending → World → Prop} {f0 : FuncId}
theorem Fin.of_step {fr fr' : Frame} {fs fs' : List Frame} {w w' : World} (hs : ∀ cs, step P (lone fr (fs ++ cs) w) = .next (lone fr' (fs' ++ cs) w'))
    (h : Fin P R f0 fr' fs' w') : Fin P R f0 fr fs w := fun cs => by
  obtain ⟨e, w₂, fr₂, hR, hc, hf, hl⟩ := h cs
  exact ⟨e, w₂, fr₂, hR, Comes.of_steps (.one (hs cs)) hc, hf, hl⟩
theorem Fin.call {g : FuncId} {args : Array Value} {caller : Frame} {fs : List Frame} {w : World} {G : Value → World → Prop}
    (hc : Calls P g args w fun e w' => ∃ v, e = .returned v ∧ G v w') (h : ∀ v w', G v w' → Fin P R f0 (caller.finish v) fs w') :
    Fin P R f0 (Frame.enter P g args .normal) (caller :: fs) w := fun cs => by
  obtain ⟨e, w₁, fr₁, ⟨v, rfl, hg⟩, hcm, _, hl⟩ := hc (caller :: (fs ++ cs))
  obtain ⟨e₂, w₂, fr₂, hR, hc₂, hf, hl₂⟩ := h v w₁ hg cs
  exact ⟨e₂, w₂, fr₂, hR, Comes.of_steps hcm (Comes.of_steps (.one (step_leave_returned hl)) hc₂), hf, hl₂⟩
theorem Fin.leave {fr caller : Frame} {fs : List Frame} {w : World} {v : Value} (hl : fr.leaving P w (.returned v)) (h : Fin P R f0 (caller.finish v) fs w) :
    Fin P R f0 fr (caller :: fs) w := Fin.of_step (fun cs => step_leave_returned hl) h
theorem Fin.done {fr : Frame} {w : World} {v : Value} (hf : fr.fn = f0) (hl : fr.leaving P w (.returned v)) (hR : R (.returned v) w) : Fin P R f0 fr [] w :=
  fun cs => ⟨.returned v, w, fr, hR, Steps.refl _ _, hf, hl⟩
theorem Fin.calls {args : Array Value} {w : World} (h : Fin P R f0 (Frame.enter P f0 args .normal) [] w) : Calls P f0 args w R := fun cs => by
  obtain ⟨e, w', fr', hR, hc, hf, hl⟩ := h cs
  exact ⟨e, w', fr', hR, hc, hf, hl⟩
end
end Go.Proofs.YtpdfjgooaaailaaGreatDoor.K
namespace Go.Proofs.YtpdfjgooaaailaaGreatDoor.K
open Go
open Go.RowKit (Below)
def infoOf (P : Program) (t : Nat) : Option (Nat × Nat × List AV) :=
  (P.info? t).bind fun i => i.zero.map fun z => (i.size, i.bytes, z.cells.toList.map avOf)
def aggD : Option TypeDesc → Bool
  | some (.struct _) => true
  | some (.array _ _) => true
  | _ => false
def flOf (P : Program) (t : Nat) : List (Nat × Nat × Bool) :=
  match P.underlying t with
  | some (.struct fs) => fs.toList.map fun f => (f.offset, (match P.underlying f.type with
    | some _ => ((P.info? f.type).map (·.size)).getD 0
    | none => 0), aggD (P.underlying f.type))
  | _ => []
def tyFits (ti : TI) : Prop := match ti.ty with
  | none => True
  | some t => csz t = ti.size ∧ isAgg t = ti.agg ∧ ofCells t ti.zero = some (dfl t, [])
def EqFits (P : Program) (t : Nat) (zero : List AV) : Prop :=
  P.eqGuardType P.depth t = false ∧ ∀ (x : Cx) (cs ds : List AV) (vs us : List Value) (c : Bool) (w : World), RVL x cs vs → RVL x ds us → sameKinds cs zero = true → cellsEq cs ds = some c →
    (Op.equal t (.agg vs.toArray) (.agg us.toArray)).run P w = .ok c w
structure TIok (P : Program) (t : Nat) (ti : TI) : Prop where
  info : infoOf P t = some (ti.size, ti.bytes, ti.zero)
  und : (P.underlying t).map shOf = some ti.sh
  und? : (P.underlying t).isSome = true
  fl : flOf P t = ti.fl
  zl : ti.zero.length = ti.size
  zs : ti.zero.all solid = true
  one : (ti.agg || Nat.beq ti.size 1) = true
  fls : ti.fl.all (fun p => !Nat.beq p.2.1 0) = true
  ty : tyFits ti
  eq : ti.eq = true → EqFits P t ti.zero
def CtxTI (P : Program) (C : Ctx) : Prop := ∀ t ti, C.ti t = some ti → TIok P t ti
section
variable {P : Program}
theorem TIok.desc {t : Nat} {ti : TI} (h : TIok P t ti) : ∃ d, P.underlying t = some d ∧ shOf d = ti.sh := by
  have := h.und
  cases hu : P.underlying t with
  | none => simp [hu] at this
  | some d => exact ⟨d, rfl, by simpa [hu] using this⟩
theorem TIok.slice {t : Nat} {ti : TI} (h : TIok P t ti) {e : Nat} (hs : ti.sh = .sl e) : P.underlying t = some (.slice e) := by
  obtain ⟨d, hd, hsh⟩ := h.desc
  rw [hs] at hsh
  cases d <;> simp [shOf] at hsh
  subst hsh; exact hd
theorem TIok.int {t : Nat} {ti : TI} (h : TIok P t ti) {k : IntKind} (hs : ti.sh = .int k) : P.underlying t = some (.int k) := by
  obtain ⟨d, hd, hsh⟩ := h.desc
  rw [hs] at hsh
  cases d <;> simp [shOf] at hsh
  subst hsh; exact hd
theorem TIok.str {t : Nat} {ti : TI} (h : TIok P t ti) (hs : ti.sh = .str) : P.underlying t = some .string := by
  obtain ⟨d, hd, hsh⟩ := h.desc
  rw [hs] at hsh
  cases d <;> simp [shOf] at hsh
  exact hd
theorem TIok.struct {t : Nat} {ti : TI} (h : TIok P t ti) {fs : List (Nat × Nat)} (hs : ti.sh = .st fs) : ∃ fields, P.underlying t = some (.struct fields) := by
  obtain ⟨d, hd, hsh⟩ := h.desc
  rw [hs] at hsh
  cases d <;> simp [shOf] at hsh
  exact ⟨_, hd⟩
theorem TIok.isAgg {t : Nat} {ti : TI} (h : TIok P t ti) (w : World) : (Go.isAgg t).run P w = .ok ti.agg w := by
  obtain ⟨d, hd, hsh⟩ := h.desc
  unfold Go.isAgg TI.agg
  rw [Sem.run_bind, run_underlying hd w, ← hsh]
  cases d <;> simp [shOf]
theorem TIok.infos {t : Nat} {ti : TI} (h : TIok P t ti) : ∃ i z, P.info? t = some i ∧ i.size = ti.size ∧ i.bytes = ti.bytes ∧ i.zero = some z ∧ z.cells.toList.map avOf = ti.zero := by
  have := h.info
  unfold infoOf at this
  cases hi : P.info? t with
  | none => simp [hi] at this
  | some i =>
    cases hz : i.zero with
    | none => simp [hi, hz] at this
    | some z =>
      simp [hi, hz] at this
      exact ⟨i, z, rfl, this.1, this.2.1, hz, this.2.2⟩
theorem TIok.sizeOf {t : Nat} {ti : TI} (h : TIok P t ti) (w : World) : (Go.sizeOf t).run P w = .ok ti.size w := by
  obtain ⟨i, z, hi, hs, _⟩ := h.infos
  simp [Go.sizeOf, typeInfo, hi, hs]
theorem avOf_RV (x : Cx) (v : Value) : RV x (avOf v) v := by
  unfold avOf
  split
  · exact .bool _
  · exact .int _ _
  · rename_i s
    have := RV.str (x := x) s.data.toList
    simpa using this
  · exact .nilsl
  · exact .cst _
theorem ev_RV {x : Cx} {e : Env} {a : Act} (h : ∀ t, RV x (get e t) (a.tmps.getD t undef)) (o : Operand) : RV x (ev e o) (a.eval o) := by
  cases o with
  | tmp t => exact h t
  | const v => exact avOf_RV x v
  | global g => exact .undef _
  | func f => exact .func f [] [] [] [] .nil .nil
theorem ev_RVL {x : Cx} {e : Env} {a : Act} (h : ∀ t, RV x (get e t) (a.tmps.getD t undef)) : ∀ l : List Operand, RVL x (l.map (ev e)) (l.map a.eval)
  | [] => .nil
  | o :: l => .cons _ _ _ _ (ev_RV h o) (ev_RVL h l)
structure NxS (x x' : Cx) (n0 : Nat → Prop) (S : Nat → Prop) (w w' : World) : Prop where
  ext : Ext x x' S
  hr : HR x' n0
  fz : ∀ b, x'.fz b → x.fz b ∨ n0 b
  bel : Bel n0 w w'
  hp : x'.hp = w'.heap
abbrev Nx (x x' : Cx) (n0 : Nat → Prop) (tok : Nat) (w w' : World) : Prop := NxS x x' n0 (fun T => ¬ (tok ≤ T ∧ T < tok + 16)) w w'
theorem NxS.weaken {x x' : Cx} {n0 : Nat → Prop} {S S' : Nat → Prop} {w w' : World} (h : NxS x x' n0 S w w') (k : ∀ T, S' T → S T) : NxS x x' n0 S' w w' :=
  ⟨h.ext.weaken k, h.hr, h.fz, h.bel, h.hp⟩
theorem Nx.refl {x : Cx} {n0 : Nat → Prop} (hr : HR x n0) (tok : Nat) {w : World} (h : x.hp = w.heap) : Nx x x n0 tok w w :=
  ⟨.refl _ _, hr, fun _ h => .inl h, .refl _ _, h⟩
def OkV (P : Program) (x : Cx) (n0 : Nat → Prop) (tok : Nat) (w : World) (s : Sem Value) : OR → Prop
  | .no => True
  | .ok c b v1 v2 h => c = true → ∃ v w' x', s.run P w = .ok v w' ∧ x'.H = h ∧ Nx x x' n0 tok w w' ∧ RV x' (cond b v1 v2) v
theorem OkV.pure {x : Cx} {n0 : Nat → Prop} {tok : Nat} (hr : HR x n0) {w : World} (hp : x.hp = w.heap) {s : Sem Value} {c b : Bool} {v1 v2 : AV}
    (h : c = true → ∃ v, s.run P w = .ok v w ∧ RV x (cond b v1 v2) v) : OkV P x n0 tok w s (.ok c b v1 v2 x.H) := fun hc => by
  obtain ⟨v, h1, h2⟩ := h hc
  exact ⟨v, w, x, h1, rfl, .refl hr tok hp, h2⟩
theorem OkV.v {x : Cx} {n0 : Nat → Prop} {tok : Nat} (hr : HR x n0) {w : World} (hp : x.hp = w.heap) {s : Sem Value} {av : AV}
    (h : ∃ v, s.run P w = .ok v w ∧ RV x av v) : OkV P x n0 tok w s (.v av x.H) := OkV.pure hr hp fun _ => h
theorem OkV.cv {x : Cx} {n0 : Nat → Prop} {tok : Nat} (hr : HR x n0) {w : World} (hp : x.hp = w.heap) {s : Sem Value} {c : Bool} {av : AV}
    (h : c = true → ∃ v, s.run P w = .ok v w ∧ RV x av v) : OkV P x n0 tok w s (.cv c av x.H) := OkV.pure hr hp h
variable {C : Ctx} (hT : CtxTI P C) {x : Cx} {n0 : Nat → Prop} {tok : Nat} (hr : HR x n0) {w : World} (hp : x.hp = w.heap)
theorem beq_u8 (a b : List UInt8) : (a == b) = decide (a = b) := by
  cases h : a == b with
  | true => simp at h; simp [h]
  | false => simp at h; simp [h]
theorem beq_int (a b : Int) : (a == b) = decide (a = b) := by
  cases h : a == b with
  | true => simp at h; simp [h]
  | false => simp at h; simp [h]
include hT hr hp in
theorem binOp_sound (op : BinOp) (t : Nat) (ax ay : AV) (vx vy : Value) (ox oy : Operand) (h1 : RV x ax vx) (h2 : RV x ay vy) :
    OkV P x n0 tok w (do eqGuard op t ox oy vx vy; Go.binOp op t vx vy) (binOp C op t ax ay x.H) := by
  unfold binOp
  split
  · rename_i k a k' b
    cases h1; cases h2
    have g : (eqGuard op t ox oy (.int k a) (.int k' b)).run P w = .ok () w := by
      unfold eqGuard; split <;> simp
    split
    · refine .cv hr hp fun hc => ?_
      have hb : ¬ b < 0 := by simpa using hc
      exact ⟨_, by simp [g, Go.binOp, Op.shift, hb], .int _ _⟩
    · refine .cv hr hp fun hc => ?_
      have hb : ¬ b < 0 := by simpa using hc
      exact ⟨_, by simp [g, Go.binOp, Op.shift, hb], .int _ _⟩
    · rename_i n1 n2
      split
      · rename_i hk
        subst hk
        cases op
        case shl => exact absurd rfl n1
        case shr => exact absurd rfl n2
        case add => exact .v hr hp ⟨.int k (k.wrap (a + b)), by simp [g, Go.binOp, Op.intArith], .int _ _⟩
        case sub => exact .v hr hp ⟨.int k (k.wrap (a - b)), by simp [g, Go.binOp, Op.intArith], .int _ _⟩
        case mul => exact .v hr hp ⟨.int k (k.wrap (a * b)), by simp [g, Go.binOp, Op.intArith], .int _ _⟩
        case quo =>
          refine .cv hr hp fun hc => ?_
          have hb : ¬ b = 0 := by simpa using hc
          exact ⟨.int k (k.wrap (a.tdiv b)), by simp [g, Go.binOp, Op.intDiv, hb], .int _ _⟩
        case rem =>
          refine .cv hr hp fun hc => ?_
          have hb : ¬ b = 0 := by simpa using hc
          exact ⟨.int k (a.tmod b), by simp [g, Go.binOp, Op.intDiv, hb], .int _ _⟩
        case and => exact .v hr hp ⟨.int k (bitop .and k a b), by simp [g, Go.binOp, Op.intBits, bitop], .int _ _⟩
        case or => exact .v hr hp ⟨.int k (bitop .or k a b), by simp [g, Go.binOp, Op.intBits, bitop], .int _ _⟩
        case xor => exact .v hr hp ⟨.int k (bitop .xor k a b), by simp [g, Go.binOp, Op.intBits, bitop], .int _ _⟩
        case andNot => exact .v hr hp ⟨.int k (bitop .andNot k a b), by simp [g, Go.binOp, Op.intBits, bitop], .int _ _⟩
        case eql => exact .v hr hp ⟨.bool (decide (a = b)), by simp [g, Go.binOp, Op.intCmp, beq_int], .bool _⟩
        case neq => exact .v hr hp ⟨.bool (!decide (a = b)), by simp [g, Go.binOp, Op.intCmp, bne, beq_int], .bool _⟩
        case lss => exact .v hr hp ⟨.bool (decide (a < b)), by simp [g, Go.binOp, Op.intCmp], .bool _⟩
        case leq => exact .v hr hp ⟨.bool (decide (a ≤ b)), by simp [g, Go.binOp, Op.intCmp], .bool _⟩
        case gtr => exact .v hr hp ⟨.bool (decide (a > b)), by simp [g, Go.binOp, Op.intCmp], .bool _⟩
        case geq => exact .v hr hp ⟨.bool (decide (a ≥ b)), by simp [g, Go.binOp, Op.intCmp], .bool _⟩
      · trivial
  · rename_i a b
    cases h1; cases h2
    have g : (eqGuard op t ox oy (.string ⟨a.toArray⟩) (.string ⟨b.toArray⟩)).run P w = .ok () w := by
      unfold eqGuard; split <;> simp
    cases op
    case add =>
      refine .cv hr hp fun hc => ?_
      have hb : a.length + b.length ≤ 9223372036854775807 := by
        have := Nat.le_of_ble_eq_true hc; omega
      refine ⟨.string ⟨(a ++ b).toArray⟩, ?_, .str _⟩
      have := run_string_add_sum (P := P) w ⟨a.toArray⟩ ⟨b.toArray⟩ (by simpa [ByteArray.size] using hb)
      simp only [Sem.run_bind, g, Result.andThen_ok, binOp_string_add, this, ByteArray.mk_append_mk]
    case eql => exact .v hr hp ⟨.bool (decide (a = b)), by simp [g, Go.binOp, Op.stringOp, ByteArray.toList_mk, beq_u8], .bool _⟩
    case neq => exact .v hr hp ⟨.bool (!decide (a = b)), by simp [g, Go.binOp, Op.stringOp, ByteArray.toList_mk, beq_u8], .bool _⟩
    case lss => exact .v hr hp ⟨.bool (Op.bytesLess a b), by simp [g, Go.binOp, Op.stringOp, ByteArray.toList_mk], .bool _⟩
    case leq => exact .v hr hp ⟨.bool (Op.bytesLess a b || decide (a = b)), by simp [g, Go.binOp, Op.stringOp, ByteArray.toList_mk, beq_u8], .bool _⟩
    case gtr => exact .v hr hp ⟨.bool (!(Op.bytesLess a b || decide (a = b))), by simp [g, Go.binOp, Op.stringOp, ByteArray.toList_mk, beq_u8], .bool _⟩
    case geq => exact .v hr hp ⟨.bool (!Op.bytesLess a b), by simp [g, Go.binOp, Op.stringOp, ByteArray.toList_mk], .bool _⟩
    all_goals trivial
  · rename_i a b
    cases h1; cases h2
    have g : (eqGuard op t ox oy (.bool a) (.bool b)).run P w = .ok () w := by
      unfold eqGuard; split <;> simp
    split
    · rename_i ti hti
      have ok := hT _ _ hti
      split
      · rename_i hs
        obtain ⟨d, hd, hsh⟩ := ok.desc
        have hd : P.underlying t = some .bool := by
          rw [hs] at hsh; cases d <;> simp [shOf] at hsh; exact hd
        have e : (Op.equal t (.bool a) (.bool b)).run P w = .ok (a == b) w := run_equalIn_bool' (P := P) w _ t a b hd
        cases op
        case eql => exact .v hr hp ⟨.bool (a == b), by simp [g, Go.binOp, e], .bool _⟩
        case neq => exact .v hr hp ⟨.bool (!(a == b)), by simp [g, Go.binOp, e], .bool _⟩
        all_goals trivial
      · trivial
    · trivial
  · rename_i a b
    split
    · rename_i ti hti
      have ok := hT _ _ hti
      cases h1 with
      | agg _ vs k1 =>
      cases h2 with
      | agg _ us k2 =>
      split
      · rename_i c he hc
        simp only [Bool.and_eq_true] at he
        obtain ⟨g1, g2⟩ := ok.eq he.1
        have e := g2 x a b vs us c w k1 k2 he.2 hc
        cases op
        case eql => exact .v hr hp ⟨.bool c, by simp [eqGuard, g1, Go.binOp, e], .bool _⟩
        case neq => exact .v hr hp ⟨.bool (!c), by simp [eqGuard, g1, Go.binOp, e], .bool _⟩
        all_goals trivial
      · trivial
    · trivial
  · rename_i t' l f
    unfold nilEq
    split
    · rename_i ti hti
      have ok := hT _ _ hti
      split
      · rename_i e hs
        obtain ⟨d, hd, hsh⟩ := ok.desc
        have hd : P.underlying t = some (.slice e) := by
          rw [hs] at hsh
          cases d <;> simp [shOf] at hsh
          subst hsh; exact hd
        cases h1 with
        | sl _ _ _ a cap q1 q2 q3 =>
        cases h2
        have hne : decide (0 < l.length) = true → a.isNone = false := fun h => by
          have : l ≠ [] := fun h' => by subst h'; simp at h
          obtain ⟨b, o, c, e', fr, rfl, _⟩ := q3 this
          rfl
        cases op
        case eql =>
          refine OkV.pure hr hp fun _ => ⟨.bool a.isNone, by simp [eqGuard, Lib.run_eql_slice_nil w t e a l.length cap 0 0 hd], ?_⟩
          cases hn : decide (0 < l.length) with
          | true => rw [hne hn]; exact .bool _
          | false => exact .maybe _
        case neq =>
          refine OkV.pure hr hp fun _ => ⟨.bool (!a.isNone), by simp [eqGuard, Go.binOp, Op.equal, Op.maxDepth, Lib.run_equalIn_slice_nil w 9999 t e a l.length cap 0 0 hd], ?_⟩
          cases hn : decide (0 < l.length) with
          | true => rw [hne hn]; exact .bool _
          | false => exact .maybe _
        all_goals trivial
      · trivial
    · trivial
  · trivial
include hr hp in
theorem unOp_sound (op : UnOp) (ax : AV) (vx : Value) (h1 : RV x ax vx) : OkV P x n0 tok w (Op.unary op vx) (unOp op ax x.H) := by
  unfold unOp
  split
  · cases h1; exact .v hr hp ⟨_, by simp [Op.unary], .bool _⟩
  · rename_i k n; cases h1; exact .v hr hp ⟨.int k (k.wrap (0 - n)), by simp [Op.unary, Op.intArith], .int _ _⟩
  · rename_i k n; cases h1; exact .v hr hp ⟨.int k (bitop .xor k (if k.signed then -1 else k.max) n), by simp [Op.unary, Op.intBits, bitop], .int _ _⟩
  · trivial
def OkP (P : Program) (x : Cx) (w : World) (s : Sem Value) : OR → Prop
  | .no => True
  | .ok c b v1 v2 h => h = x.H ∧ (c = true → ∃ v, s.run P w = .ok v w ∧ RV x (cond b v1 v2) v)
include hr hp in
theorem OkP.toV {s : Sem Value} {r : OR} (h : OkP P x w s r) : OkV P x n0 tok w s r := by
  cases r with
  | no => trivial
  | ok c b v1 v2 h' =>
    obtain ⟨rfl, h⟩ := h
    exact OkV.pure hr hp h
theorem row_sub {c : Array Value} {o m off n : Nat} (h : off + n ≤ m) : row c (o + off) n = ((row c o m).drop off).take n := by
  unfold row
  rw [List.drop_take, List.drop_drop, List.take_take]
  congr 1
  omega
theorem row_all (c : Array Value) : row c 0 c.size = c.toList := by
  have := List.take_length (l := c.toList)
  simpa [row] using this
theorem range_row {w : World} {b o n : Nat} {c : Array Value} {e : TypeId} {fr : Nat × Nat} (hb : w.heap[b]? = some (Obj.cells c e fr)) : w.rangeAt b o (row c o n) := by
  intro j v hv
  simp only [World.cell?, hb]
  unfold row at hv
  rw [List.getElem?_take] at hv
  split at hv
  · simpa [List.getElem?_drop] using hv
  · simp at hv
theorem loadVar_sound {t : Nat} {ti : TI} (ok : TIok P t ti) {w : World} {b o off : Nat} {c : Array Value} {e : TypeId} {fr : Nat × Nat} (hb : w.heap[b]? = some (Obj.cells c e fr))
    {x : Cx} {cs : List AV} {vs : List Value} (hv : RVL x cs vs) (hrow : row c o vs.length = vs) (hoff : off + ti.size ≤ vs.length) :
    ∃ v, (loadVar t ⟨b, o + off, none⟩).run P w = .ok v w ∧ RV x (part cs off ti.size ti.agg) v := by
  have hsub : row c (o + off) ti.size = (vs.drop off).take ti.size := by rw [row_sub hoff, hrow]
  have hlen : ((vs.drop off).take ti.size).length = ti.size := by simp; omega
  obtain ⟨i, z, hi, hs, _⟩ := ok.infos
  obtain ⟨d, hd, hsh⟩ := ok.desc
  have hrng : w.rangeAt b (o + off) ((vs.drop off).take ti.size) := by rw [← hsub]; exact range_row hb
  cases hag : ti.agg with
  | true =>
    have hrowd : d.isRow = true := by
      unfold TI.agg at hag
      rw [← hsh] at hag
      cases d <;> simp [shOf] at hag <;> rfl
    refine ⟨_, run_loadVar_mid w b (o + off) t _ d hrng hd hrowd (by simp [hi, hs, hlen]), ?_⟩
    exact .agg _ _ (hv.drop off |>.take ti.size)
  | false =>
    have h1 : ti.size = 1 := by have := ok.one; rw [hag] at this; simpa using Nat.eq_of_beq_eq_true (by simpa using this)
    have hag' := ok.isAgg w
    rw [hag] at hag'
    have hd2 := hv.drop off
    cases hcs : cs.drop off with
    | nil =>
      have := hv.length
      have : (cs.drop off).length = 0 := by rw [hcs]; rfl
      simp at this; omega
    | cons c1 cs1 =>
      rw [hcs] at hd2
      cases hvs : vs.drop off with
      | nil => rw [hvs] at hd2; cases hd2
      | cons v1 vs1 =>
        rw [hvs] at hd2
        cases hd2 with
        | cons _ _ _ _ k1 k2 =>
        have hc : w.cell? ⟨b, o + off, none⟩ = some v1 := by
          have := hrng 0 v1 (by rw [hvs, h1]; rfl)
          simpa using this
        refine ⟨v1, ?_, ?_⟩
        · simp [loadVar, hag', hc]
        · simp only [part, hcs]; exact k1
theorem csz_flat {t : Ty} (h : flatTy t = true) : csz t = 1 := by cases t <;> first | rfl | (simp [flatTy] at h)
theorem ofCell_flat {t : Ty} (h : flatTy t = true) {c : AV} {y : den t} (hc : ofCell t c = some y) : c = ofDen t y := by
  cases t with
  | bool => cases c <;> simp [ofCell] at hc; subst hc; rfl
  | str => cases c <;> simp [ofCell] at hc; subst hc; rfl
  | int k =>
    cases c <;> simp [ofCell] at hc
    obtain ⟨rfl, hc⟩ := hc
    subst hc; rfl
  | _ => simp [flatTy] at h
theorem arrCells_get {t : Ty} (ht : flatTy t = true) : ∀ {n : Nat} {cs : List AV} {l : List (den t)}, arrCells t n cs = some l → ∀ {i : Nat}, i < n → ∃ c, cs[i]? = some c ∧ c = ofDen t (l.getD i (dfl t))
  | 0, _, _, _, i, hi => absurd hi (Nat.not_lt_zero _)
  | n + 1, [], _, h, _, _ => by simp [arrCells] at h
  | n + 1, c :: cs, l, h, i, hi => by
    simp only [arrCells] at h
    split at h
    · rename_i y ys hy hys
      simp only [Option.some.injEq] at h; subst h
      match i with
      | 0 => exact ⟨c, rfl, by rw [List.getD_cons_zero]; exact ofCell_flat ht hy⟩
      | i + 1 =>
        obtain ⟨c', h1, h2⟩ := arrCells_get ht hys (i := i) (by omega)
        exact ⟨c', by rw [List.getElem?_cons_succ]; exact h1, by rw [List.getD_cons_succ]; exact h2⟩
    · simp at h
include hr hp in
theorem loadOp_pure {t : Nat} {ti : TI} (ok : TIok P t ti) {p : AV} {v : Value} (h : RV x p v) : OkP P x w (Instr.loadAt t v) (loadOp ti p x.H) := by
  unfold loadOp
  split
  · rename_i tk off
    cases h with
    | ptr _ _ ad h =>
    split
    · rename_i cs hg
      split
      · rename_i hle
        have hle := Nat.le_of_ble_eq_true hle
        obtain ⟨b, hm, rfl⟩ := h cs hg
        obtain ⟨b', c, e, fr, hm', hb, _, _, _, _, hrv⟩ := hr.blk _ _ hg
        rw [hm] at hm'; cases hm'
        rw [hp] at hb
        obtain ⟨v, h1, h2⟩ := loadVar_sound (o := 0) (off := off) ok hb hrv (by rw [Array.length_toList]; exact row_all c) (by have := hrv.length; omega)
        exact ⟨rfl, fun _ => ⟨v, by simpa [Instr.loadAt, Instr.sureAddr] using h1, h2⟩⟩
      · trivial
    · trivial
  · rename_i tk i off
    cases h with
    | eptr _ _ _ ad h =>
    have go : ∀ (t' : Ty) (l : List (den t')), AF x.H tk t' l → off + ti.size ≤ csz t' → OkP P x w (Instr.loadAt t (.pointer (some ad))) (.v (part (cellsOf t' (l.getD i (dfl t'))) off ti.size ti.agg) x.H) := by
      intro t' l ha hle
      obtain ⟨hi, b, o, hm, rfl⟩ := h t' l ha
      rcases af_deep hr ha with ⟨hl, _⟩ | ⟨b', o', c, e, fr, hm', hb, hsz, hd⟩
      · subst hl; simp at hi
      rw [hm] at hm'; cases hm'
      rw [hp] at hb
      have hdi := hd i hi
      have hrv := cells_RVL t' _ _ hdi
      have hlen := DeepC.length _ _ _ hdi
      obtain ⟨v, h1, h2⟩ := loadVar_sound (o := o + i * csz t') (off := off) ok hb hrv (by rw [hlen]) (by omega)
      have e : l.getD i (dfl t') = l[i] := by simp [List.getD, hi]
      rw [e]
      exact ⟨rfl, fun _ => ⟨v, by simpa [Instr.loadAt, Instr.sureAddr] using h1, h2⟩⟩
    split
    · rename_i t' l hg
      split
      · rename_i hle; exact go t' l (.inl hg) (Nat.le_of_ble_eq_true hle)
      · trivial
    · rename_i t' l hg
      split
      · rename_i hle; exact go t' l (.inr hg) (Nat.le_of_ble_eq_true hle)
      · trivial
    · trivial
  · rename_i t' y off
    cases h with
    | rptr _ _ _ b o c e fr h1 h2 h3 =>
    split
    · rename_i hle
      have hle := Nat.le_of_ble_eq_true hle
      rw [hp] at h2
      have hlen := DeepC.length _ _ _ h3
      obtain ⟨v, h1, h2⟩ := loadVar_sound (o := o) (off := off) ok h2 (cells_RVL t' _ _ h3) (by rw [hlen]) (by omega)
      exact ⟨rfl, fun _ => ⟨v, by simpa [Instr.loadAt, Instr.sureAddr] using h1, h2⟩⟩
    · trivial
  · rename_i tk off n t' i
    cases h with
    | aptr _ _ _ _ _ ad hi h =>
    split
    · rename_i cs hg
      split
      · rename_i l hfl hl
        simp only [Bool.and_eq_true] at hfl
        obtain ⟨hft, hsz, hag⟩ := hfl
        have hsz := Nat.eq_of_beq_eq_true hsz
        obtain ⟨c1, hc1, hc2⟩ := arrCells_get hft hl hi
        obtain ⟨b, hm, rfl⟩ := h cs hg
        obtain ⟨b', c, e, fr, hm', hb, _, _, _, _, hrv⟩ := hr.blk _ _ hg
        rw [hm] at hm'; cases hm'
        rw [hp] at hb
        rw [List.getElem?_drop] at hc1
        have hlt : off + i < cs.length := by
          rcases Nat.lt_or_ge (off + i) cs.length with h | h
          · exact h
          · rw [List.getElem?_eq_none h] at hc1; cases hc1
        obtain ⟨v, h1, h2⟩ := loadVar_sound (o := 0) (off := off + i) ok hb hrv (by rw [Array.length_toList]; exact row_all c) (by have := hrv.length; omega)
        have hpart : part cs (off + i) ti.size ti.agg = ofDen t' (l.getD i (dfl t')) := by
          have hag : ti.agg = false := by simpa using hag
          have hd : (cs.drop (off + i))[0]? = some c1 := by rw [List.getElem?_drop]; exact hc1
          rw [hag]
          simp only [part]
          cases hcs : cs.drop (off + i) with
          | nil => rw [hcs] at hd; cases hd
          | cons a as => rw [hcs] at hd; simp only [List.getElem?_cons_zero, Option.some.injEq] at hd; subst hd; exact hc2
        rw [hpart] at h2
        rw [csz_flat hft, Nat.mul_one]
        exact ⟨rfl, fun _ => ⟨v, by simpa [Instr.loadAt, Instr.sureAddr] using h1, h2⟩⟩
      · trivial
    · trivial
  · trivial
include hr hp in
theorem loadOp_sound {t : Nat} {ti : TI} (ok : TIok P t ti) {p : AV} {v : Value} (h : RV x p v) : OkV P x n0 tok w (Instr.loadAt t v) (loadOp ti p x.H) := (loadOp_pure hr hp ok h).toV hr hp
theorem TIok.field {t : Nat} {ti : TI} (ok : TIok P t ti) {f o n : Nat} {ag : Bool} (h : fieldOf ti f = some (o, n, ag)) :
    ∃ fields fd, P.underlying t = some (.struct fields) ∧ fields[f]? = some fd ∧ fd.offset = o ∧ ((P.info? fd.type).map (·.size)).getD 0 = n ∧ aggD (P.underlying fd.type) = ag ∧ n ≠ 0 ∧ (P.underlying fd.type).isSome = true := by
  unfold fieldOf at h
  have hfl := ok.fl
  have hfs := ok.fls
  have hn : n ≠ 0 := by
    rintro rfl
    have := List.all_eq_true.1 hfs (o, 0, ag) (List.mem_of_getElem? h)
    simp at this
  rw [← hfl] at h
  unfold flOf at h
  split at h
  · rename_i fs hfs'
    rw [List.getElem?_map] at h
    cases hg : fs.toList[f]? with
    | none => simp [hg] at h
    | some fd =>
      simp only [hg, Option.map_some, Option.some.injEq, Prod.mk.injEq] at h
      obtain ⟨g1, g2, g3⟩ := h
      cases hu : P.underlying fd.type with
      | none => simp only [hu] at g2; exact absurd g2.symm hn
      | some d => simp only [hu] at g2 g3; exact ⟨fs, fd, hfs', by simpa using hg, g1, g2, by rw [← g3, hu], hn, by simp [hu]⟩
  · simp at h
theorem sizeOf_some {t n : Nat} (h : ((P.info? t).map (·.size)).getD 0 = n) (hn : n ≠ 0) (w : World) : (Go.sizeOf t).run P w = .ok n w := by
  cases hi : P.info? t with
  | none => simp [hi] at h; omega
  | some i => simp [hi] at h; simp [Go.sizeOf, typeInfo, hi, h]
theorem addr_add (b o n : Nat) : (⟨b, o, none⟩ : Addr).add n = ⟨b, o + n, none⟩ := Addr.add_mid b o n
include hr hp in
theorem fieldAddrOp_sound {t : Nat} {ti : TI} (ok : TIok P t ti) {p : AV} {v : Value} (f : Nat) (h : RV x p v) : OkV P x n0 tok w (Instr.fieldAt t v f) (fieldAddrOp ti p f x.H) := by
  unfold fieldAddrOp
  split
  · trivial
  · rename_i o n ag hf
    obtain ⟨fields, fd, h1, h2, h3, h4, h5, h6, _⟩ := ok.field hf
    have hz := sizeOf_some h4 h6 w
    have run : ∀ ad : Addr, (Instr.fieldAt t (.pointer (some ad)) f).run P w = .ok (.pointer (some (ad.add o))) w := by
      intro ad
      simp [Instr.fieldAt, run_underlying h1, h2, Instr.sureAddr, fieldPlace, hz, h3, h6]
    split
    · rename_i tk off
      cases h with
      | ptr _ _ ad h =>
      refine .v hr hp ⟨_, run ad, .ptr _ _ _ fun cs hg => ?_⟩
      obtain ⟨b, hm, rfl⟩ := h cs hg
      exact ⟨b, hm, addr_add b off o⟩
    · rename_i tk i off
      cases h with
      | eptr _ _ _ ad h =>
      refine .v hr hp ⟨_, run ad, .eptr _ _ _ _ fun t' l ha => ?_⟩
      obtain ⟨hi, b, o', hm, rfl⟩ := h t' l ha
      exact ⟨hi, b, o', hm, by rw [addr_add, Nat.add_assoc]⟩
    · rename_i t' y off
      cases h with
      | rptr _ _ _ b o' c e fr h1 h2 h3 =>
      refine .v hr hp ⟨_, run _, ?_⟩
      rw [addr_add, Nat.add_assoc]
      exact .rptr t' y (off + o) b o' c e fr h1 h2 h3
    · trivial
theorem isAgg_run {t : Nat} (hs : (P.underlying t).isSome = true) (w : World) : (Go.isAgg t).run P w = .ok (aggD (P.underlying t)) w := by
  cases hu : P.underlying t with
  | none => simp [hu] at hs
  | some d =>
    unfold Go.isAgg
    rw [Sem.run_bind, run_underlying hu w]
    cases d <;> simp [aggD]
include hr hp in
theorem fieldOp_sound {t : Nat} {ti : TI} (ok : TIok P t ti) {p : AV} {v : Value} (f : Nat) (h : RV x p v) : OkV P x n0 tok w (Instr.field t v f) (fieldOp ti p f x.H) := by
  unfold fieldOp
  split
  · rename_i o n ag cs hf
    obtain ⟨fields, fd, h1, h2, h3, h4, h5, h6, h7⟩ := ok.field hf
    cases h with
    | agg _ vs h =>
    split
    · rename_i hle
      have hle := Nat.le_of_ble_eq_true hle
      have hz := sizeOf_some h4 h6 w
      have hag := isAgg_run h7 w
      rw [h5] at hag
      have hlen := h.length
      cases ag with
      | true =>
        have e : (vs.toArray.extract o (o + n)) = ((vs.drop o).take n).toArray := by
          apply Array.ext'
          simp [Array.toList_extract, List.extract_eq_take_drop]
        refine .v hr hp ⟨.agg ((vs.drop o).take n).toArray, ?_, ?_⟩
        · simp [Instr.field, run_underlying h1, h2, asAgg, Go.part, hag, h3, hz, e]
        · exact .agg _ _ (h.drop o |>.take n)
      | false =>
        have hd := h.drop o
        cases hcs : cs.drop o with
        | nil =>
          have : (cs.drop o).length = 0 := by rw [hcs]; rfl
          simp at this; omega
        | cons c1 cs1 =>
          rw [hcs] at hd
          cases hvs : vs.drop o with
          | nil => rw [hvs] at hd; cases hd
          | cons v1 vs1 =>
            rw [hvs] at hd
            cases hd with
            | cons _ _ _ _ k1 k2 =>
            have hget : vs[o]? = some v1 := by
              have : (vs.drop o)[0]? = some v1 := by rw [hvs]; rfl
              simpa using this
            refine .v hr hp ⟨v1, ?_, ?_⟩
            · simp [Instr.field, run_underlying h1, h2, asAgg, Go.part, hag, h3, hget]
            · simp only [part, hcs]; exact k1
    · trivial
  · trivial
include hr hp in
theorem extract_sound {p : AV} {v : Value} (i : Nat) (h : RV x p v) : OkV P x n0 tok w (Instr.extract v i) (extractOp p i x.H) := by
  unfold extractOp
  cases h with
  | tup cs vs h =>
    dsimp only
    split
    · rename_i c hc
      obtain ⟨v, hv, hrv⟩ := RVL.get i h hc
      exact .v hr hp ⟨v, by simp [Instr.extract, hv], hrv⟩
    · trivial
  | _ => trivial
theorem natOf_RV {av : AV} {v : Value} {n : Int} (h : RV x av v) (hn : natOf av = some n) : ∃ k, v = .int k n := by
  unfold natOf at hn
  split at hn
  · cases hn; cases h; exact ⟨_, rfl⟩
  · simp at hn
theorem isStr_und {t : Nat} (hT : CtxTI P C) (h : isStr C t = true) : P.underlying t = some .string := by
  unfold isStr at h
  split at h
  · rename_i ti hti
    split at h
    · rename_i hs; exact (hT _ _ hti).str hs
    · simp at h
  · simp at h
theorem eltSz_und {t n : Nat} (hT : CtxTI P C) (h : eltSz C t = some n) : ∃ e, P.underlying t = some (.slice e) ∧ ∀ w, (Go.sizeOf e).run P w = .ok n w := by
  unfold eltSz at h
  split at h
  · rename_i ti hti
    split at h
    · rename_i e hs
      split at h
      · rename_i te hte
        simp only [Option.some.injEq] at h
        exact ⟨e, (hT _ _ hti).slice hs, fun w => by rw [(hT _ _ hte).sizeOf w, h]⟩
      · simp at h
    · simp at h
  · simp at h
theorem avSz_AF {tk : Nat} {t : Ty} {l : List (den t)} (h : AF x.H tk t l) (f : Bool) : avSz (.who tk f) x.H = some (csz t) := by
  rcases h with h | h <;> simp [avSz, h]
theorem avSz_AF' {tk off len : Nat} {t : Ty} {l : List (den t)} (h : AF x.H tk t l) (f : Bool) : avSz (.ref tk off len f) x.H = some (csz t) := by
  rcases h with h | h <;> simp [avSz, h]
theorem fitsTy_slice {t : Nat} {av : AV} (hT : CtxTI P C) (h : fitsTy C t av x.H = true) (hs : ∀ s, av ≠ .str s) :
    ∃ e n, P.underlying t = some (.slice e) ∧ (∀ w, (Go.sizeOf e).run P w = .ok n w) ∧ (av = .nilsl ∨ avSz av x.H = some n) := by
  unfold fitsTy at h
  split at h
  · rename_i s; exact absurd rfl (hs s)
  · obtain ⟨n, hn⟩ := Option.isSome_iff_exists.1 h
    obtain ⟨e, h1, h2⟩ := eltSz_und hT hn
    exact ⟨e, n, h1, h2, .inl rfl⟩
  · split at h
    · rename_i n m h1 h2
      have := Nat.eq_of_beq_eq_true h
      subst this
      obtain ⟨e, h3, h4⟩ := eltSz_und hT h1
      exact ⟨e, n, h3, h4, .inr h2⟩
    · simp at h
include hT hr hp in
theorem indexAddr_sound {t : Nat} {ax ai : AV} {vx vi : Value} (hf : fitsTy C t ax x.H = true) (h1 : RV x ax vx) (h2 : RV x ai vi) :
    OkV P x n0 tok w (Instr.indexAt t vx vi) (indexAddrOp ax ai x.H) := by
  unfold indexAddrOp
  split
  · trivial
  · rename_i i hi
    obtain ⟨k, rfl⟩ := natOf_RV h2 hi
    have run : ∀ (e n : Nat) (a : Addr) (len cap : Nat), P.underlying t = some (.slice e) → (∀ w, (Go.sizeOf e).run P w = .ok n w) → 0 ≤ i → i < (len : Int) →
        (Instr.indexAt t (.slice (some a) len cap) (.int k i)).run P w = .ok (.pointer (some (a.add (i.toNat * n)))) w := by
      intro e n a len cap hu hz h0 hlt
      simp [Instr.indexAt, asIntOf, run_underlying hu, h0, hlt, hz]
    split
    · rename_i t' l f
      obtain ⟨e, n, hu, hz, hsz⟩ := fitsTy_slice hT hf (by simp)
      simp [avSz] at hsz
      subst hsz
      cases h1 with
      | sl _ _ _ a cap q1 q2 q3 =>
      refine .cv hr hp fun hc => ?_
      simp only [Bool.and_eq_true, decide_eq_true_eq] at hc
      obtain ⟨h0, hlt⟩ := hc
      have hlt' : i.toNat < l.length := by omega
      obtain ⟨b, o, c, e', fr, rfl, hok, hb, hd⟩ := q3 (by rintro rfl; simp at hlt')
      refine ⟨_, run e _ _ _ _ hu hz h0 hlt, ?_⟩
      rw [addr_add]
      have e1 : l.getD i.toNat (dfl t') = l[i.toNat] := by simp [List.getD, hlt']
      rw [e1]
      exact .rptr t' _ 0 b (o + i.toNat * csz t') c e' fr hok hb (hd _ hlt')
    · rename_i tk f
      split
      · rename_i n hn
        obtain ⟨e, m, hu, hz, hsz⟩ := fitsTy_slice hT hf (by simp)
        simp at hsz
        cases h1 with
        | who _ _ a len cap q =>
        refine .cv hr hp fun hc => ?_
        simp only [Bool.and_eq_true, decide_eq_true_eq] at hc
        obtain ⟨h0, hlt⟩ := hc
        have : ∃ t' l, AF x.H tk t' l ∧ n = (l.length : Int) := by
          simp only [lenOf] at hn
          split at hn
          · rename_i t' l hg; exact ⟨t', l, .inl hg, by simpa using hn.symm⟩
          · rename_i t' l hg; exact ⟨t', l, .inr hg, by simpa using hn.symm⟩
          · simp at hn
        obtain ⟨t', l, ha, rfl⟩ := this
        rw [avSz_AF ha] at hsz
        simp only [Option.some.injEq] at hsz; subst hsz
        obtain ⟨g1, g2, g3, g4⟩ := q t' l ha
        subst g1
        rcases g4 with ⟨g5, _⟩ | ⟨b, o, c, e', fr, g5, rfl, g7, g8⟩
        · omega
        refine ⟨_, run e _ _ _ _ hu hz h0 hlt, .eptr _ _ _ _ fun t'' l' ha' => ?_⟩
        obtain ⟨rfl, hl⟩ := ha.unique ha'
        cases hl
        exact ⟨by omega, b, o, g5, by rw [addr_add]; simp⟩
      · trivial
    · rename_i tk off len f
      obtain ⟨e, m, hu, hz, hsz⟩ := fitsTy_slice hT hf (by simp)
      simp at hsz
      cases h1 with
      | ref _ _ _ _ a cap q =>
      refine .cv hr hp fun hc => ?_
      simp only [Bool.and_eq_true, decide_eq_true_eq] at hc
      obtain ⟨h0, hlt⟩ := hc
      have : ∃ t' l, AF x.H tk t' l := by
        simp only [avSz] at hsz
        split at hsz
        · rename_i t' l hg; exact ⟨t', l, .inl hg⟩
        · rename_i t' l hg; exact ⟨t', l, .inr hg⟩
        · simp at hsz
      obtain ⟨t', l, ha⟩ := this
      rw [avSz_AF' ha] at hsz
      simp only [Option.some.injEq] at hsz; subst hsz
      obtain ⟨g1, g2, g3, g4⟩ := q t' l ha
      rcases g4 with ⟨g5, _⟩ | ⟨b, o, c, e', fr, g5, rfl, g7, g8⟩
      · omega
      refine ⟨_, run e _ _ _ _ hu hz h0 hlt, .eptr _ _ _ _ fun t'' l' ha' => ?_⟩
      obtain ⟨rfl, hl⟩ := ha.unique ha'
      cases hl
      refine ⟨by omega, b, o, g5, ?_⟩
      rw [addr_add, Nat.add_mul]; simp [Nat.add_assoc]
    · trivial
include hT hr hp in
theorem indexOp_sound {t : Nat} {ax ai : AV} {vx vi : Value} (hf : isStr C t = true) (h1 : RV x ax vx) (h2 : RV x ai vi) :
    OkV P x n0 tok w (Instr.index t vx vi) (indexOp ax ai x.H) := by
  unfold indexOp
  split
  · trivial
  · rename_i i hi
    obtain ⟨k, rfl⟩ := natOf_RV h2 hi
    split
    · rename_i s
      cases h1
      refine .cv hr hp fun hc => ?_
      simp only [Bool.and_eq_true, decide_eq_true_eq] at hc
      obtain ⟨h0, hlt⟩ := hc
      have hlt' : i.toNat < s.length := by omega
      have := run_index_string (P := P) w t ⟨s.toArray⟩ k i (isStr_und hT hf)
      rw [dif_pos ⟨h0, by simpa [ByteArray.size] using hlt⟩] at this
      refine ⟨_, this, ?_⟩
      have e : (s.getD i.toNat 0) = (⟨s.toArray⟩ : ByteArray)[i.toNat]'(by simpa [ByteArray.size] using hlt') := by
        simp [List.getD, hlt']; rfl
      rw [e]
      exact .int _ _
    · trivial
theorem arrTy_und (hT : CtxTI P C) {t n : Nat} {ty : Ty} (h : arrTy C t = some (n, ty)) : ∃ e, P.underlying t = some (.array n e) ∧ flatTy ty = true ∧ (∀ w, (Go.sizeOf e).run P w = .ok 1 w) ∧ (∀ w, (Go.isAgg e).run P w = .ok false w) := by
  unfold arrTy at h
  split at h
  · rename_i ti hti
    split at h
    · rename_i m e hs
      split at h
      · rename_i te hte
        split at h
        · rename_i ty' hty
          split at h
          · rename_i hf
            simp only [Option.some.injEq, Prod.mk.injEq] at h
            obtain ⟨rfl, rfl⟩ := h
            obtain ⟨d, h1, h2⟩ := (hT _ _ hti).desc
            rw [hs] at h2
            have hfit := (hT _ _ hte).ty
            unfold tyFits at hfit
            rw [hty] at hfit
            obtain ⟨g1, g2, _⟩ := hfit
            refine ⟨e, ?_, hf, fun w => ?_, fun w => ?_⟩
            · rw [h1]; cases d <;> simp [shOf] at h2 ⊢; exact h2
            · rw [(hT _ _ hte).sizeOf w, ← g1, csz_flat hf]
            · rw [(hT _ _ hte).isAgg w, ← g2]; cases ty' <;> first | rfl | (simp [flatTy] at hf)
          · simp at h
        · simp at h
      · simp at h
    · simp at h
  · simp at h
include hT hr hp in
theorem arrAddr_sound {t : Nat} {ax ai : AV} {vx vi : Value} (h1 : RV x ax vx) (h2 : RV x ai vi) : OkV P x n0 tok w (Instr.indexAt t vx vi) (arrAddrOp C t ax ai x.H) := by
  unfold arrAddrOp
  split
  · rename_i n ty i hty hi
    obtain ⟨k, rfl⟩ := natOf_RV h2 hi
    obtain ⟨e, hu, hf, hz, _⟩ := arrTy_und hT hty
    split
    · rename_i tk off
      cases h1 with
      | ptr _ _ ad h =>
      refine .cv hr hp fun hc => ?_
      simp only [Bool.and_eq_true, decide_eq_true_eq] at hc
      obtain ⟨h0, hlt⟩ := hc
      have run : (Instr.indexAt t (.pointer (some ad)) (.int k i)).run P w = .ok (.pointer (some (ad.add (i.toNat * 1)))) w := by
        simp [Instr.indexAt, asIntOf, run_underlying hu, h0, hlt, hz, Instr.sureAddr]
      refine ⟨_, run, .aptr _ _ _ _ _ _ (by omega) fun cs hg => ?_⟩
      obtain ⟨b, hm, rfl⟩ := h cs hg
      exact ⟨b, hm, by rw [addr_add, csz_flat hf]⟩
    · trivial
  · trivial
include hT hr hp in
theorem arrIndex_sound {t : Nat} {ax ai : AV} {vx vi : Value} (h1 : RV x ax vx) (h2 : RV x ai vi) : OkV P x n0 tok w (Instr.index t vx vi) (arrIndexOp C t ax ai x.H) := by
  unfold arrIndexOp
  split
  · rename_i n ty i hty hi
    obtain ⟨k, rfl⟩ := natOf_RV h2 hi
    obtain ⟨e, hu, hf, hz, hag⟩ := arrTy_und hT hty
    split
    · rename_i cs
      split
      · rename_i l hl
        cases h1 with
        | agg _ vs h =>
        refine .cv hr hp fun hc => ?_
        simp only [Bool.and_eq_true, decide_eq_true_eq] at hc
        obtain ⟨h0, hlt⟩ := hc
        obtain ⟨c, hc1, hc2⟩ := arrCells_get hf hl (i := i.toNat) (by omega)
        obtain ⟨v, hv, hrv⟩ := RVL.get _ h hc1
        refine ⟨v, ?_, by rw [← hc2]; exact hrv⟩
        simp [Instr.index, asIntOf, run_underlying hu, h0, hlt, hz, Go.part, hag, hv]
      · trivial
    · trivial
  · trivial
def OptIs (v : Option Value) (n : Option Int) : Prop := (v = none ∧ n = none) ∨ ∃ k i, v = some (.int k i) ∧ n = some i
theorem optI_is {o : Option Operand} {e : Env} {a : Act} {n : Option Int} (h : ∀ t, RV x (get e t) (a.tmps.getD t undef)) (ho : optI (o.map (ev e)) = some n) :
    OptIs (o.map a.eval) n := by
  cases o with
  | none => simp [optI] at ho; subst ho; exact .inl ⟨rfl, rfl⟩
  | some o =>
    simp only [Option.map_some, optI] at ho
    split at ho
    · rename_i m hm
      simp only [Option.some.injEq] at ho; subst ho
      obtain ⟨k, hk⟩ := natOf_RV (ev_RV h o) hm
      exact .inr ⟨k, m, by simp [hk], rfl⟩
    · simp at ho
def slMax (m : Option Int) (cap : Nat) : Nat := slHi m cap
theorem slChk_le {l u m : Option Int} {len : Nat} (h : slChk l u m len = true) : slLo l ≤ slHi u len ∧ slHi u len ≤ len ∧ (m ≠ none → slHi u len ≤ slMax m len ∧ slMax m len ≤ len) := by
  cases m with
  | none =>
    cases l <;> cases u <;> simp [slChk, slLo, slHi, slMax] at * <;> omega
  | some m =>
    cases l <;> cases u <;> simp [slChk, slLo, slHi, slMax] at * <;> omega
theorem sliceBounds_run (b : Bool) {len cap : Nat} (hc : len ≤ cap) {lo hi mx : Option Value} {l u m : Option Int} (h1 : OptIs lo l) (h2 : OptIs hi u) (h3 : OptIs mx m)
    (hk : slChk l u m len = true) : (Instr.sliceBounds b len cap lo hi mx).run P w = .ok (slLo l, slHi u len, slMax m cap) w := by
  rcases h3 with ⟨rfl, rfl⟩ | ⟨km, im, rfl, rfl⟩
  · rcases h1 with ⟨rfl, rfl⟩ | ⟨kl, il, rfl, rfl⟩ <;> rcases h2 with ⟨rfl, rfl⟩ | ⟨ku, iu, rfl, rfl⟩ <;> simp [slChk] at hk
    · simp [Instr.sliceBounds, slLo, slHi, slMax]
    · have e : (iu.toNat : Int) = iu := by omega
      simp [Instr.sliceBounds, slLo, slHi, slMax, run_sliceBound, hk, show iu ≤ (cap : Int) by omega]
    · simp [Instr.sliceBounds, slLo, slHi, slMax, run_sliceBound, hk]
    · have e : (iu.toNat : Int) = iu := by omega
      simp [Instr.sliceBounds, slLo, slHi, slMax, run_sliceBound, hk, show iu ≤ (cap : Int) by omega, show 0 ≤ iu by omega, e]
  · rcases h1 with ⟨rfl, rfl⟩ | ⟨kl, il, rfl, rfl⟩ <;> rcases h2 with ⟨rfl, rfl⟩ | ⟨ku, iu, rfl, rfl⟩ <;> simp [slChk] at hk
    · have e : (im.toNat : Int) = im := by omega
      simp [Instr.sliceBounds, slLo, slHi, slMax, run_sliceBound, hk, show im ≤ (cap : Int) by omega, show 0 ≤ im by omega, e]
    · have e : (im.toNat : Int) = im := by omega
      have e' : (iu.toNat : Int) = iu := by omega
      simp [Instr.sliceBounds, slLo, slHi, slMax, run_sliceBound, hk, show im ≤ (cap : Int) by omega, show 0 ≤ im by omega, show 0 ≤ iu by omega, e, e']
theorem cutL_eq {α : Type} {l u m : Option Int} {s : List α} (hk : slChk l u m s.length = true) : cutL l u s = (s.drop (slLo l)).take (slHi u s.length - slLo l) := by
  cases l <;> cases u <;> simp [cutL, slLo, slHi]
  · rw [List.take_of_length_le (by simp)]
  · rename_i l u
    rw [List.drop_take]
theorem cutL_length {α : Type} {l u m : Option Int} {s : List α} (hk : slChk l u m s.length = true) : (cutL l u s).length = slHi u s.length - slLo l := by
  rw [cutL_eq hk]
  have := slChk_le hk
  simp; omega
theorem slEq_full {f : Bool} {l u m : Option Int} {len cap : Nat} (hk : slChk l u m len = true) (hf : f = true → cap = len) (hc : len ≤ cap) :
    (∀ b, slEq u m = b → cond b (slFull f u m) false = true → slMax m cap - slLo l = slHi u len - slLo l) := by
  intro b hb h
  have hle := slChk_le hk
  cases m with
  | none =>
    cases u with
    | none => cases b <;> simp [slFull] at h; have := hf h; simp [slMax, slHi]; omega
    | some u => cases b <;> simp [slFull] at h
  | some m =>
    cases u with
    | none => simp [slChk] at hk
    | some u =>
      cases b with
      | false => simp at h
      | true =>
        simp [slEq] at hb
        subst hb
        simp [slMax, slHi]
include hT hr hp in
theorem sliceOp_sound {t : Nat} {ax : AV} {vx : Value} {lo hi mx : Option Value} {l u m : Option Int} (hf : fitsTy C t ax x.H = true) (h : RV x ax vx)
    (h1 : OptIs lo l) (h2 : OptIs hi u) (h3 : OptIs mx m) : OkV P x n0 tok w (Instr.sliceAt t vx lo hi mx) (sliceOp ax l u m x.H) := by
  have sl : ∀ (e n : Nat) (a : Option Addr) (len cap : Nat), P.underlying t = some (.slice e) → (∀ w, (Go.sizeOf e).run P w = .ok n w) → len ≤ cap → slChk l u m len = true →
      (Instr.sliceAt t (.slice a len cap) lo hi mx).run P w = .ok (.slice (if slMax m cap = slLo l then a else a.map (·.add (slLo l * n))) (slHi u len - slLo l) (slMax m cap - slLo l)) w := by
    intro e n a len cap hu hz hc hk
    have := sliceBounds_run (P := P) (w := w) true hc h1 h2 h3 hk
    simp [Instr.sliceAt, Instr.slice, run_underlying hu, this, hz]
  have mx_le : ∀ {len cap : Nat}, len ≤ cap → slChk l u m len = true → slHi u len ≤ slMax m cap ∧ slMax m cap ≤ cap := by
    intro len cap hc hk
    have := slChk_le hk
    cases m with
    | none => simp [slMax, slHi] at *; omega
    | some m => simp [slMax, slHi] at *; omega
  unfold sliceOp
  split
  · rename_i s
    split
    · cases h
      have hu : P.underlying t = some .string := isStr_und hT (by simpa [fitsTy] using hf)
      refine .cv hr hp fun hk => ?_
      rcases h3 with ⟨rfl, _⟩ | ⟨k, i, _, h⟩
      · have := sliceBounds_run (P := P) (w := w) false (Nat.le_refl s.length) h1 h2 (.inl ⟨rfl, rfl⟩) hk
        have hsz : (ByteArray.mk s.toArray).size = s.length := by simp [ByteArray.size]
        refine ⟨.string ((ByteArray.mk s.toArray).extract (slLo l) (slHi u s.length)), by simp [Instr.sliceAt, Instr.slice, run_underlying hu, hsz, this], ?_⟩
        have e : (ByteArray.mk s.toArray).extract (slLo l) (slHi u s.length) = ⟨(cutL l u s).toArray⟩ := by
          rw [cutL_eq hk]
          apply ByteArray.ext
          apply Array.ext'
          simp [ByteArray.data_extract, Array.toList_extract, List.extract_eq_take_drop]
        rw [e]; exact .str _
      · simp at h
    · trivial
  · rename_i t' s f
    obtain ⟨e, n, hu, hz, hsz⟩ := fitsTy_slice hT hf (by simp)
    simp [avSz] at hsz
    subst hsz
    cases h with
    | sl _ _ _ a cap q1 q2 q3 =>
    refine OkV.pure hr hp fun hk => ?_
    refine ⟨_, sl e _ a s.length cap hu hz q1 hk, ?_⟩
    have hle := slChk_le hk
    have hm := mx_le q1 hk
    have hlen := cutL_length hk
    have hfull := slEq_full hk q2 q1
    have hrow : RowR x.hp x.fz (csz t') (DeepC x.hp x.fz t') (cutL l u s) (if slMax m cap = slLo l then a else a.map (·.add (slLo l * csz t'))) := by
      intro hne
      have hpos : 0 < (cutL l u s).length := List.length_pos_iff.2 hne
      rw [hlen] at hpos
      rw [if_neg (by omega)]
      obtain ⟨b, o, c, e', fr, rfl, hok, hb, hd⟩ := q3 (by rintro rfl; simp only [List.length_nil] at hle hpos; omega)
      refine ⟨b, o + slLo l * csz t', c, e', fr, by simp [addr_add], hok, hb, fun i hi => ?_⟩
      rw [hlen] at hi
      have := hd (slLo l + i) (by omega)
      have e1 : (cutL l u s)[i]'(by rw [hlen]; exact hi) = s[slLo l + i]'(by omega) := by
        simp only [cutL_eq hk]
        simp
      rw [e1]
      have e2 : o + slLo l * csz t' + i * csz t' = o + (slLo l + i) * csz t' := by rw [Nat.add_mul]; omega
      rw [e2]; exact this
    cases hb : slEq u m with
    | true =>
      have := RV.sl t' (cutL l u s) (slFull f u m) _ (slMax m cap - slLo l) (by rw [hlen]; omega) (fun hh => by rw [hlen]; exact hfull true hb hh) hrow
      rw [hlen] at this
      exact this
    | false =>
      have := RV.sl t' (cutL l u s) false _ (slMax m cap - slLo l) (by rw [hlen]; omega) (by simp) hrow
      rw [hlen] at this
      exact this
  · obtain ⟨e, n, hu, hz, hsz⟩ := fitsTy_slice hT hf (by simp)
    cases h
    refine .cv hr hp fun hk => ?_
    refine ⟨_, sl e n none 0 0 hu hz (Nat.le_refl _) hk, ?_⟩
    have hle := slChk_le hk
    have hm := mx_le (Nat.le_refl 0) hk
    have e1 : slHi u 0 - slLo l = 0 := by omega
    have e2 : slMax m 0 - slLo l = 0 := by omega
    rw [e1, e2]
    simp
    exact .nilsl
  · rename_i tk f
    split
    · rename_i len hlen
      obtain ⟨e, n, hu, hz, hsz⟩ := fitsTy_slice hT hf (by simp)
      simp at hsz
      have : ∃ t' y, AF x.H tk t' y ∧ len = y.length := by
        simp only [lenH] at hlen
        split at hlen
        · rename_i t' y hg; exact ⟨t', y, .inl hg, by simpa using hlen.symm⟩
        · rename_i t' y hg; exact ⟨t', y, .inr hg, by simpa using hlen.symm⟩
        · simp at hlen
      obtain ⟨t', y, ha, rfl⟩ := this
      rw [avSz_AF ha] at hsz
      simp only [Option.some.injEq] at hsz; subst hsz
      cases h with
      | who _ _ a nn cap q =>
      obtain ⟨g1, g2, g3, g4⟩ := q t' y ha
      subst g1
      have part : slChk l u m y.length = true → ∀ ff : Bool, (ff = true → slMax m cap - slLo l = slHi u y.length - slLo l) →
          RV x (.ref tk (slLo l) (slHi u y.length - slLo l) ff) (.slice (if slMax m cap = slLo l then a else a.map (·.add (slLo l * csz t'))) (slHi u y.length - slLo l) (slMax m cap - slLo l)) := by
        intro hk ff hff
        have hle := slChk_le hk
        have hm := mx_le g2 hk
        refine .ref _ _ _ _ _ _ fun t'' y' ha' => ?_
        obtain ⟨rfl, hy⟩ := ha.unique ha'
        cases hy
        refine ⟨by omega, by omega, hff, ?_⟩
        by_cases hz0 : slMax m cap = slLo l
        · exact .inl ⟨by omega, by omega⟩
        · rcases g4 with ⟨g5, g6⟩ | ⟨b, o, c, e', fr, g5, rfl, g7, g8⟩
          · omega
          · refine .inr ⟨b, o, c, e', fr, g5, by simp [hz0, addr_add], g7, ?_⟩
            have : (slLo l + (slMax m cap - slLo l)) * csz t' ≤ (0 + cap) * csz t' := Nat.mul_le_mul_right _ (by omega)
            omega
      split
      · rename_i h1' h2' h3'
        refine .v hr hp ⟨_, sl e _ a y.length cap hu hz g2 rfl, ?_⟩
        simp only [slMax, slHi, slLo, Nat.sub_zero, Nat.zero_mul]
        have e1 : (if cap = 0 then a else a.map (·.add 0)) = a := by
          split
          · rfl
          · cases a <;> simp [Addr.add]
        rw [e1]
        exact .who tk f a y.length cap q
      · refine OkV.pure hr hp fun hk => ?_
        refine ⟨_, sl e _ a y.length cap hu hz g2 hk, ?_⟩
        have hfull := slEq_full hk g3 g2
        cases hb : slEq u m with
        | true => exact part hk _ fun hh => hfull true hb hh
        | false => exact part hk _ fun hh => by simp at hh
    · trivial
  · rename_i tk off len f
    obtain ⟨e, n, hu, hz, hsz⟩ := fitsTy_slice hT hf (by simp)
    simp at hsz
    cases h with
    | ref _ _ _ _ a cap q =>
    have : ∃ t' l, AF x.H tk t' l := by
      simp only [avSz] at hsz
      split at hsz
      · rename_i t' l hg; exact ⟨t', l, .inl hg⟩
      · rename_i t' l hg; exact ⟨t', l, .inr hg⟩
      · simp at hsz
    obtain ⟨t', y, ha⟩ := this
    rw [avSz_AF' ha] at hsz
    simp only [Option.some.injEq] at hsz; subst hsz
    obtain ⟨g1, g2, g3, g4⟩ := q t' y ha
    have part : slChk l u m len = true → ∀ ff : Bool, (ff = true → slMax m cap - slLo l = slHi u len - slLo l) →
        RV x (.ref tk (off + slLo l) (slHi u len - slLo l) ff) (.slice (if slMax m cap = slLo l then a else a.map (·.add (slLo l * csz t'))) (slHi u len - slLo l) (slMax m cap - slLo l)) := by
      intro hk ff hff
      have hle := slChk_le hk
      have hm := mx_le g2 hk
      refine .ref _ _ _ _ _ _ fun t'' y' ha' => ?_
      obtain ⟨rfl, hy⟩ := ha.unique ha'
      cases hy
      refine ⟨by omega, by omega, hff, ?_⟩
      by_cases hz0 : slMax m cap = slLo l
      · exact .inl ⟨by omega, by omega⟩
      · rcases g4 with ⟨g5, g6⟩ | ⟨b, o, c, e', fr, g5, rfl, g7, g8⟩
        · omega
        · refine .inr ⟨b, o, c, e', fr, g5, by simp [hz0, addr_add, Nat.add_mul, Nat.add_assoc], g7, ?_⟩
          have : (off + slLo l + (slMax m cap - slLo l)) * csz t' ≤ (off + cap) * csz t' := Nat.mul_le_mul_right _ (by omega)
          omega
    refine OkV.pure hr hp fun hk => ?_
    refine ⟨_, sl e _ a len cap hu hz g2 hk, ?_⟩
    have hfull := slEq_full hk g3 g2
    cases hb : slEq u m with
    | true => exact part hk _ fun hh => hfull true hb hh
    | false => exact part hk _ fun hh => by simp at hh
  · trivial
theorem shows_all (x : Cx) (ts : List Nat) : Shows x (fun _ => True) ts := fun _ _ _ _ _ _ _ _ => trivial
include hr hp in
theorem bytes_read {av : AV} {v : Value} {l : List Int} (h : RV x av v) (ho : toDen x.H (.sl (.int .u8)) av = some l) {src dst e : Nat}
    (hs : P.underlying src = some (.slice e)) (he : P.underlying e = some (.int .u8)) (hd : P.underlying dst = some .string) :
    (Go.convert src dst v).run P w = .ok (.string ⟨(bytesOf l).toArray⟩) w := by
  have := toDen_deep hr (fz' := fun _ => True) (fun _ _ => trivial) h (shows_all _ _) ho
  obtain ⟨_, a, cap, hv, hc, hrow⟩ := this
  simp only [List.cons.injEq, and_true] at hv
  subst hv
  by_cases hl : l = []
  · subst hl
    cases a with
    | none => rw [run_convert_bytes_nil w src e hs he _ _ dst hd]; rfl
    | some ad =>
      rw [run_convert_bytes_string w src dst e _ _ _ hs he hd]
      simp [Conv.bytesToString, loadCells, loadCellsFrom, bytesOf]
      rfl
  · obtain ⟨b, o, c, e', fr, rfl, _, hb, hi⟩ := hrow hl
    rw [hp] at hb
    have := run_convert_bytes_arg (P := P) w src e hs he b o l.length cap l rfl (fun i hlt => by
      have h1 := hi i hlt
      simp only [DeepC, csz, Nat.mul_one] at h1
      have h2 := range_row (o := o + i) (n := 1) hb 0 (.int .u8 l[i]) (by rw [h1]; rfl)
      simp only [Nat.add_zero] at h2
      rw [h2]
      simp [List.getD, hlt]) dst hd
    rw [this]; rfl
include hT hr hp in
theorem convert_sound {src dst : Nat} {ax : AV} {vx : Value} (h : RV x ax vx)
    (hnew : ∀ (e : Nat) (s : List UInt8), P.underlying dst = some (.slice e) → P.underlying e = some (.int .u8) → (P.underlying src).isSome = true →
      OkV P x n0 tok w (Go.convert src dst (.string ⟨s.toArray⟩)) (.v (.who tok false) (hput x.H tok (.arr (.int .u8) (s.map fun b => (b.toNat : Int)))))) :
    OkV P x n0 tok w (Go.convert src dst vx) (convert C src dst ax tok x.H) := by
  unfold convert
  split
  · rename_i ti ts hti hts
    have ok := hT _ _ hti
    have oks := hT _ _ hts
    obtain ⟨d, hd, hsh⟩ := ok.desc
    obtain ⟨ds, hds, hshs⟩ := oks.desc
    split
    · rename_i k k' n hs
      cases h
      exact .v hr hp ⟨_, by simp [Go.convert, run_underlying hds, run_underlying (ok.int hs), Conv.intToInt], .int _ _⟩
    · rename_i s hs
      cases h
      have hu := ok.str hs
      refine .v hr hp ⟨.string ⟨s.toArray⟩, ?_, .str _⟩
      cases ds <;> simp [Go.convert, run_underlying hds, run_underlying hu]
    · rename_i e s hs
      split
      · rename_i te hte
        split
        · rename_i hse
          cases h
          exact hnew e s (ok.slice hs) ((hT _ _ hte).int hse) (by simp [hds])
        · trivial
      · trivial
    · rename_i ax' hs hn
      split
      · rename_i e hse
        split
        · rename_i te hte
          split
          · rename_i hu8
            split
            · rename_i l hl
              refine .v hr hp ⟨_, bytes_read hr hp h hl (oks.slice hse) ((hT _ _ hte).int hu8) (ok.str hs), .str _⟩
            · trivial
          · trivial
        · trivial
      · trivial
    · trivial
  · trivial
include hT hr hp in
theorem convert_sound' {src dst : Nat} {ax : AV} {vx : Value} (h : RV x ax vx) (hel : eltSz C dst = none) :
    OkV P x n0 tok w (Go.convert src dst vx) (convert C src dst ax tok x.H) := by
  unfold convert
  split
  · rename_i ti ts hti hts
    have ok := hT _ _ hti
    have oks := hT _ _ hts
    obtain ⟨d, hd, hsh⟩ := ok.desc
    obtain ⟨ds, hds, hshs⟩ := oks.desc
    split
    · rename_i k k' n hs
      cases h
      exact .v hr hp ⟨_, by simp [Go.convert, run_underlying hds, run_underlying (ok.int hs), Conv.intToInt], .int _ _⟩
    · rename_i s hs
      cases h
      have hu := ok.str hs
      refine .v hr hp ⟨.string ⟨s.toArray⟩, ?_, .str _⟩
      cases ds <;> simp [Go.convert, run_underlying hds, run_underlying hu]
    · rename_i e s hse
      split
      · rename_i te hte
        simp [eltSz, hti, hse, hte] at hel
      · trivial
    · rename_i ax' hs hn
      split
      · rename_i e hse
        split
        · rename_i te hte
          split
          · rename_i hu8
            split
            · rename_i l hl
              refine .v hr hp ⟨_, bytes_read hr hp h hl (oks.slice hse) ((hT _ _ hte).int hu8) (ok.str hs), .str _⟩
            · trivial
          · trivial
        · trivial
      · trivial
    · trivial
  · trivial
include hT hr hp in
theorem len_sound {t ty : Nat} {ts : List Nat} {ax : AV} {vx : Value} {n : Int} (hf : fitsTy C t ax x.H = true) (h : RV x ax vx) (hn : lenOf ax x.H = some n) :
    OkV P x n0 tok w (Builtin.len_ (t :: ts).toArray ty #[vx]) (.v (.int .i64 n) x.H) := by
  have sl : ∀ e a len cap, P.underlying t = some (.slice e) → (Builtin.len_ (t :: ts).toArray ty #[.slice a len cap]).run P w = .ok (.int .i64 len) w := by
    intro e a len cap hu
    simp [Builtin.len_, run_underlying hu, goInt]
  cases ax with
  | str s =>
    have hu : P.underlying t = some .string := isStr_und hT (by simpa [fitsTy] using hf)
    cases h
    simp [lenOf] at hn; subst hn
    refine .v hr hp ⟨_, ?_, .int _ _⟩
    have hsz : (ByteArray.mk s.toArray).size = s.length := by simp [ByteArray.size]
    simp [Builtin.len_, run_underlying hu, goInt, hsz]
  | sl t' l f =>
    obtain ⟨e, m, hu, hz, hsz⟩ := fitsTy_slice hT hf (by simp)
    cases h
    simp [lenOf] at hn; subst hn
    exact .v hr hp ⟨_, sl e _ _ _ hu, .int _ _⟩
  | nilsl =>
    obtain ⟨e, m, hu, hz, hsz⟩ := fitsTy_slice hT hf (by simp)
    cases h
    simp [lenOf] at hn; subst hn
    exact .v hr hp ⟨_, sl e _ _ _ hu, .int _ _⟩
  | who tk f =>
    obtain ⟨e, m, hu, hz, hsz⟩ := fitsTy_slice hT hf (by simp)
    cases h with
    | who _ _ a len cap q =>
    simp only [lenOf] at hn
    split at hn
    · rename_i t' l hg
      obtain ⟨g1, _⟩ := q t' l (.inl hg)
      simp only [Option.some.injEq] at hn; subst hn; subst g1
      exact .v hr hp ⟨_, sl e _ _ _ hu, .int _ _⟩
    · rename_i t' l hg
      obtain ⟨g1, _⟩ := q t' l (.inr hg)
      simp only [Option.some.injEq] at hn; subst hn; subst g1
      exact .v hr hp ⟨_, sl e _ _ _ hu, .int _ _⟩
    · simp at hn
  | ref tk off len f =>
    obtain ⟨e, m, hu, hz, hsz⟩ := fitsTy_slice hT hf (by simp)
    cases h
    simp [lenOf] at hn; subst hn
    exact .v hr hp ⟨_, sl e _ _ _ hu, .int _ _⟩
  | husk t' len =>
    obtain ⟨e, m, hu, hz, hsz⟩ := fitsTy_slice hT hf (by simp)
    cases h
    simp [lenOf] at hn; subst hn
    exact .v hr hp ⟨_, sl e _ _ _ hu, .int _ _⟩
  | _ => simp [lenOf] at hn
include hr hp in
theorem maxmin_sound {mx : Bool} {ax ay av : AV} {vx vy : Value} (h1 : RV x ax vx) (h2 : RV x ay vy) (hm : maxmin mx ax ay = some av) (ts : Array Nat) (ty : Nat) :
    OkV P x n0 tok w (cond mx (Builtin.max_ ts ty #[vx, vy]) (Builtin.min_ ts ty #[vx, vy])) (.v av x.H) := by
  cases h1 with
  | int k a =>
    cases h2 with
    | int k' b =>
      simp only [maxmin] at hm
      split at hm
      · rename_i hk
        subst hk
        have hm := Option.some.inj hm
        subst hm
        cases mx with
        | true =>
          refine .v hr hp ⟨.int k (max a b), ?_, .int _ _⟩
          have e : (if b > a then b else a) = max a b := by omega
          simp [Builtin.max_, Builtin.max2]; omega
        | false =>
          refine .v hr hp ⟨.int k (min a b), ?_, .int _ _⟩
          have e : (if b < a then b else a) = min a b := by omega
          simp [Builtin.min_, Builtin.min2]; omega
      · simp at hm
    | _ => simp [maxmin] at hm
  | _ => simp [maxmin] at hm
end
end Go.Proofs.YtpdfjgooaaailaaGreatDoor.K
