/- The compact code of a Go function, and what its operations do with abstract values. Conditions: none (a library text). -/
import Derived.Test.YtnbmngpdbnkhaaaC7Rows0
set_option linter.unusedVariables false
namespace Go.Sk
open Go.RowKit

inductive Opd where
  | t (n : Nat)
  | k (v : AV)
  deriving Inhabited

inductive MOp where
  | mv (x : Opd)
  | pick (c a b : Opd)
  | new (t : Nat) (z : List AV)
  | box (t : Nat) (x : Opd)
  | build (z : List AV) (ps : List (Nat × Nat × Opd))
  | bslice (e : Nat) (z : List AV) (n : Nat) (ps : List (Nat × Opd))
  | load (agg : Bool) (n : Nat) (x : Opd)
  | store (n : Nat) (a x : Opd)
  | nilchk (x : Opd)
  | bin (op : BinOp) (x y : Opd)
  | eqI (n : Nat) (neg : Bool) (x y : Opd)
  | eqB (neg : Bool) (x y : Opd)
  | not (x : Opd)
  | conv (k : IntKind) (x : Opd)
  | fld (off : Nat) (x : Opd)
  | idxS (e : Nat) (x i : Opd)
  | idxP (n : Nat) (x i : Opd)
  | idxV (n : Nat) (x i : Opd)
  | slcS (e : Nat) (x : Opd) (lo hi : Option Opd)
  | ext (x : Opd) (i : Nat)
  | len (x : Opd)
  | slen (x : Opd)
  | app (e lim : Nat) (x y : Opd)
  | mm (mx : Bool) (x y : Opd)
  | fbits (x : Opd)
  | ffrom (x : Opd)
  | isnil (neg : Bool) (x : Opd)
  | call (f : Nat) (args : List Opd)
  deriving Inhabited

structure MOper where
  dst : Option Nat
  op : MOp
  g : Option (Nat × Bool)
  deriving Inhabited

/-- An operation of a region whose order the machine draws. 'w': an append that waits for all; 'nx': the row that it makes; 'av': rows that it must not read; 'sep': pointers that lead elsewhere. -/
structure DOp where
  o : MOper
  w : Bool
  nx : Nat
  av : List Nat
  sep : List Nat
  deriving Inhabited

inductive MC where
  | skip
  | reg (ops : List MOper)
  | dreg (m : Nat) (ops : List DOp)
  | seq (a b : MC)
  | cond (c : Opd) (a b : MC)
  | block (id : Nat) (c : MC)
  | loop (c : MC)
  | exit (id : Nat)
  | ret
  deriving Inhabited

/-- A row that a call has made, or was lent. -/
inductive Row where
  | box (t : Nat) (v : List AV)
  | vec (e : Nat) (l : List (List AV))
  | frz (e : Nat) (l : List (List AV))
  | dead
  deriving Inhabited

abbrev Env := List (Nat × AV)

def look : Env → Nat → AV
  | [], _ => .un
  | (s, v) :: e, t => if s = t then v else look e t

def Opd.get (e : Env) : Opd → AV
  | .t n => look e n
  | .k v => v

/-- A value's items. -/
def itemsOf : AV → Option (List AV)
  | .agg l => some l
  | .tup _ | .un | .arr _ => none
  | x => some [x]

/-- What is stored in an element leads to nothing that is written any more. -/
def thawV (rows : List Row) : AV → Option (AV × List Row)
  | .sref id n => match rows[id]? with
    | some (.vec e l) => if n ≤ l.length then some (.fz e (l.take n), rows.set id (.frz e l)) else none
    | some (.frz e l) => if n ≤ l.length then some (.fz e (l.take n), rows) else none
    | _ => none
  | .ptr .. | .ptrA .. | .ptrE .. | .pz .. | .arr _ | .agg _ | .tup _ | .un => none
  | x => some (x, rows)

def thawL (rows : List Row) : List AV → Option (List AV × List Row)
  | [] => some ([], rows)
  | x :: xs => (thawV rows x).bind fun p => (thawL p.2 xs).map fun q => (p.1 :: q.1, q.2)

def putParts (g : Opd → AV) : List AV → List (Nat × Nat × Opd) → Option (List AV)
  | z, [] => some z
  | z, (c, sz, x) :: ps => (itemsOf (g x)).bind fun l => if widths l = sz then (putAt z c l).bind fun z' => putParts g z' ps else none

def putElems (g : Opd → AV) (sz : Nat) : List Row → List (List AV) → List (Nat × Opd) → Option (List (List AV) × List Row)
  | rows, l, [] => some (l, rows)
  | rows, l, (i, x) :: ps => (itemsOf (g x)).bind fun y => (thawL rows y).bind fun q => if i < l.length ∧ widths y = sz then putElems g sz q.2 (l.set i q.1) ps else none

/-- A pointer's items, from its cell on. -/
def behind (rows : List Row) : AV → Option (List AV)
  | .ptr id c => match rows[id]? with
    | some (.box _ v) => skip v c
    | _ => none
  | .ptrE id e i c => match rows[id]? with
    | some (.vec e' l) => if e = e' then (l[i]?).bind fun v => skip v c else none
    | some (.frz e' l) => if e = e' then (l[i]?).bind fun v => skip v c else none
    | _ => none
  | .pz v c => skip v c
  | .ptrA id c j => match rows[id]? with
    | some (.box _ v) => match skip v c with
      | some (.arr l :: _) => (l[j]?).map fun x => [x]
      | _ => none
    | _ => none
  | _ => none

/-- An array that stands at a cell, one of its elements put. -/
def putArr : List AV → Nat → Nat → AV → Option (List AV)
  | .arr l :: xs, 0, j, x => if j < l.length then some (.arr (l.set j x) :: xs) else none
  | _, 0, _, _ => none
  | [], _ + 1, _, _ => none
  | y :: ys, c + 1, j, x => if y.width ≤ c + 1 then (putArr ys (c + 1 - y.width) j x).map (y :: ·) else none

def storeAt (rows : List Row) : AV → List AV → Option (List Row)
  | .ptr id c, new => match rows[id]? with
    | some (.box t v) => (putAt v c new).map fun v' => rows.set id (.box t v')
    | _ => none
  | .ptrA id c j, [x] => match rows[id]? with
    | some (.box t v) => if x.one then (putArr v c j x).map fun v' => rows.set id (.box t v') else none
    | _ => none
  | .ptrE id e i c, new => (thawL rows new).bind fun q => match q.2[id]? with
    | some (.vec e' l) => if e = e' then (l[i]?).bind fun v => (putAt v c q.1).map fun v' => q.2.set id (.vec e (l.set i v')) else none
    | _ => none
  | _, _ => none

def intBin (op : BinOp) (k : IntKind) (a b : Int) : Option AV :=
  match op with
  | .add => some (.int k (k.wrap (a + b)))
  | .sub => some (.int k (k.wrap (a - b)))
  | .mul => some (.int k (k.wrap (a * b)))
  | .and => some (.int k (Go.bits .and k a b))
  | .or => some (.int k (Go.bits .or k a b))
  | .xor => some (.int k (Go.bits .xor k a b))
  | .andNot => some (.int k (Go.bits .andNot k a b))
  | .eql => some (.bool (a == b))
  | .neq => some (.bool (a != b))
  | .lss => some (.bool (decide (a < b)))
  | .leq => some (.bool (decide (a ≤ b)))
  | .gtr => some (.bool (decide (a > b)))
  | .geq => some (.bool (decide (a ≥ b)))
  | .quo => if b = 0 then none else some (.int k (k.wrap (a.tdiv b)))
  | .rem => if b = 0 then none else some (.int k (a.tmod b))
  | _ => none

def binV (op : BinOp) : AV → AV → Option AV
  | .int k a, .int k' b => match op with
    | .shl => if b < 0 then none else some (.int k (k.wrap (a * 2 ^ min b.toNat k.bits)))
    | .shr => if b < 0 then none else some (.int k (a.fdiv (2 ^ min b.toNat k.bits)))
    | _ => if k = k' then intBin op k a b else none
  | .str a, .str b => match op with
    | .eql => some (.bool (a.toList == b.toList))
    | .neq => some (.bool (!(a.toList == b.toList)))
    | _ => none
  | .flt a, .flt b => match op with
    | .eql => some (.bool (Op.floatEq .f64 a b))
    | .neq => some (.bool (!Op.floatEq .f64 a b))
    | _ => none
  | _, _ => none

def eqInts : List AV → List AV → Option Bool
  | [], [] => some true
  | .int k a :: xs, .int k' b :: ys => if k = k' then (eqInts xs ys).map fun r => (a == b) && r else none
  | _, _ => none

/-- A slice's elements (of type e): what is read of it. -/
def elems (e : Nat) (rows : List Row) : AV → Option (List (List AV))
  | .nil _ => some []
  | .fz e' l => if e = e' then some l else none
  | .sref id n => match rows[id]? with
    | some (.vec e' l) => if e = e' ∧ n ≤ l.length then some (l.take n) else none
    | some (.frz e' l) => if e = e' ∧ n ≤ l.length then some (l.take n) else none
    | _ => none
  | _ => none

def lenV : AV → Option Int
  | .nil _ => some 0
  | .fz _ l => some l.length
  | .sref _ n => some n
  | _ => none

def idx (i : AV) (n : Nat) : Option Nat :=
  match i with
  | .int _ j => if 0 ≤ j ∧ j < n then some j.toNat else none
  | _ => none

def bound (g : Opd → AV) (d : Nat) (top : Nat) : Option Opd → Option Nat
  | none => some d
  | some x => match g x with
    | .int _ j => if 0 ≤ j ∧ j ≤ top then some j.toNat else none
    | _ => none

/-- What is loaded: a struct or an array, or one cell. -/
def loadR (agg : Bool) (m : List AV) : Option AV :=
  if agg then some (.agg m) else match m with
    | [y] => if y.one then some y else none
    | _ => none

/-- The address of a slice's element. -/
def idxSV (e : Nat) (x i : AV) : Option AV :=
  match x with
  | .fz e' l => if e = e' then (idx i l.length).bind fun j => (l[j]?).map fun v => .pz v 0 else none
  | .sref id n => (idx i n).map fun j => .ptrE id e j 0
  | _ => none

/-- The address of an array's element. -/
def idxPV (n : Nat) (x i : AV) : Option AV :=
  match x with
  | .ptr id c => (idx i n).map fun j => .ptrA id c j
  | _ => none

/-- An array's element. -/
def idxVV (n : Nat) (x i : AV) : Option AV :=
  match x with
  | .agg [.arr l] => (idx i n).bind fun j => l[j]?
  | _ => none

/-- What an append leaves. -/
def appR (e lim : Nat) (rows : List Row) (x : AV) (ys : List (List AV)) : Option (AV × List Row) :=
  match x with
  | .nil _ => if ys.length ≤ lim then (if ys.isEmpty then some (.nil e, rows ++ [.dead]) else some (.sref rows.length ys.length, rows ++ [.vec e ys])) else none
  | .sref id n => match rows[id]? with
    | some (.vec e' l) => if e = e' ∧ n ≤ l.length ∧ n + ys.length ≤ lim then some (.sref rows.length (n + ys.length), rows.set id .dead ++ [.vec e (l.take n ++ ys)]) else none
    | _ => none
  | _ => none

def isAggD : TypeDesc → Bool
  | .struct _ | .array _ _ => true
  | _ => false

/-- One operation but a call: its value, and the rows behind it. -/
def stepOp (g : Opd → AV) (rows : List Row) : MOp → Option (AV × List Row)
  | .mv x => some (g x, rows)
  | .pick c a b => match g c with
    | .bool t => some (if t then g a else g b, rows)
    | _ => none
  | .new t z => some (.ptr rows.length 0, rows ++ [.box t z])
  | .box t x => (itemsOf (g x)).map fun l => (.ptr rows.length 0, rows ++ [.box t l])
  | .build z ps => (putParts g z ps).map fun l => (.agg l, rows)
  | .bslice e z n ps => (putElems g (widths z) rows (List.replicate n z) ps).map fun q => (.sref q.2.length n, q.2 ++ [.vec e q.1])
  | .load agg n x => (behind rows (g x)).bind fun l => (firsts l n).bind fun m => (loadR agg m).map fun v => (v, rows)
  | .store n a x => (itemsOf (g x)).bind fun l => if widths l = n then (storeAt rows (g a) l).map fun r => (.un, r) else none
  | .nilchk x => match g x with
    | .ptr id c => some (.ptr id c, rows)
    | .ptrE id e i c => some (.ptrE id e i c, rows)
    | .ptrA id c j => some (.ptrA id c j, rows)
    | .pz v c => some (.pz v c, rows)
    | _ => none
  | .bin op x y => (binV op (g x) (g y)).map fun v => (v, rows)
  | .eqI n neg x y => match g x, g y with
    | .agg a, .agg b => if a.length = n then (eqInts a b).map fun r => (.bool (if neg then !r else r), rows) else none
    | _, _ => none
  | .eqB neg x y => match g x, g y with
    | .bool a, .bool b => some (.bool (if neg then !(a == b) else a == b), rows)
    | _, _ => none
  | .not x => match g x with
    | .bool b => some (.bool !b, rows)
    | _ => none
  | .conv k x => match g x with
    | .int _ n => some (.int k (k.wrap n), rows)
    | _ => none
  | .fld off x => match g x with
    | .ptr id c => some (.ptr id (c + off), rows)
    | .ptrE id e i c => some (.ptrE id e i (c + off), rows)
    | .pz v c => some (.pz v (c + off), rows)
    | _ => none
  | .idxS e x i => (idxSV e (g x) (g i)).map fun v => (v, rows)
  | .idxP n x i => (idxPV n (g x) (g i)).map fun v => (v, rows)
  | .idxV n x i => (idxVV n (g x) (g i)).map fun v => (v, rows)
  | .slcS e x lo hi => match g x with
    | .fz e' l => if e = e' then (bound g l.length l.length hi).bind fun h => (bound g 0 h lo).map fun b => (.fz e ((l.take h).drop b), rows) else none
    | .sref id n => (bound g n n hi).bind fun h => match lo with
      | none => some (.sref id h, rows)
      | some _ => (bound g 0 h lo).bind fun b => (thawV rows (.sref id h)).bind fun q => match q.1 with
        | .fz e' l => if e = e' then some (.fz e (l.drop b), q.2) else none
        | _ => none
    | .nil e' => (bound g 0 0 hi).bind fun h => (bound g 0 h lo).map fun b => (.nil e', rows)
    | _ => none
  | .ext x i => match g x with
    | .tup l => (l[i]?).map fun v => (v, rows)
    | _ => none
  | .len x => (lenV (g x)).map fun n => (.int .i64 n, rows)
  | .slen x => match g x with
    | .str s => some (.int .i64 s.size, rows)
    | _ => none
  | .app e lim x y => (elems e rows (g y)).bind fun ys => appR e lim rows (g x) ys
  | .mm mx x y => match g x, g y with
    | .int k a, .int k' b => if k = k' then some (.int k (if mx then (if a < b then b else a) else (if b < a then b else a)), rows) else none
    | _, _ => none
  | .fbits x => match g x with
    | .flt b => some (.int .u64 b, rows)
    | _ => none
  | .ffrom x => match g x with
    | .int .u64 n => some (.flt n.toNat, rows)
    | _ => none
  | .isnil _ _ => none
  | .call _ _ => none
end Go.Sk
