/- A small machine for the translated code: it runs a function on values that are written as trees, with the blocks that the run itself made in a list. What it computes is shown in the texts behind this one to be what the model computes, whatever the tape. -/
import Derived.WalkKit
import Derived.WalkSpells
import Derived.WalkLawsBesides
import Derived.Deep.QuietTactic
import Derived.BigQuiet
import Derived.Lib.Hide
import Derived.Laws.CopyRow
import Derived.Laws.AppendOwnNone
set_option linter.all false
namespace Go.Eng
open Go.RowKit

inductive AV where
  | int (k : IntKind) (n : Int)
  | bool (b : Bool)
  | str (s : ByteArray)
  | flat (v : Value)
  | agg (cs : List AV)
  | tup (cs : List AV)
  | tsl (st : Bool) (sz : Nat) (rows : List (List AV))
  | tptr (st : Bool) (row : List AV) (off : Nat)
  | esl
  | sl (b e off len sz : Nat)
  | ptr (b e sz row off : Nat)
  | osl (sz : Nat) (rows : List (List AV))
  | fn (f : FuncId) (caps : List AV)
  | iface (t : TypeId) (x : AV)
  | mp (b : Nat)
  | it (b : Nat)
  | junk

instance : Inhabited AV := ⟨.junk⟩

inductive Blk where
  | arr (rows : List (List AV)) (sz : Nat) (wep : Nat) (pr : Bool)
  | map (es : List (AV × AV))
  | iter (mb n : Nat) (dn : Bool)
  | dead

abbrev Store := List Blk

structure St where
  fr : List AV
  S : Store

inductive TD where
  | int (k : IntKind)
  | str
  | bool
  | slice (e : TypeId)
  | struct (fs : List (Nat × TypeId))
  | array (n : Nat) (e : TypeId)
  | map (k e : TypeId)
  | other

/-- No interface. -/
def TD.solid : TD → Bool
  | .other => false
  | _ => true

structure TyI where
  size : Nat
  agg : Bool
  bytes : Nat
  zero : List AV
  desc : TD

/-- What a struct's cells are, for '=='. -/
inductive EK | int | bool | str

structure Ctx where
  ty : TypeId → Option TyI
  fn : FuncId → Option Func
  byRef : FuncId → Bool
  prim : FuncId → Option (List AV → Store → Option (AV × Store))
  eqT : TypeId → Option (List EK)
  /-- Where a slice is written out, or handed back by a callee, that nobody writes to. -/
  frz : String → Bool
  /-- The method of a type, by its name. -/
  meth : TypeId → String → Option FuncId
  /-- May a method of this name work on the caller's blocks? -/
  refM : String → Bool
  /-- Does it hand back a struct whose slices become the caller's own? -/
  nest : FuncId → Bool
  /-- A variable of a package that nobody writes. -/
  glob : Nat → Option (List AV)
  /-- At a store in a region that draws its order: the pointers that may be read behind it, though they stand before it. -/
  late : String → List Nat

/-! ### Values -/

/-- May it lie in one cell? -/
def AV.cell : AV → Bool
  | .agg _ | .tup _ | .junk | .osl .. | .it _ => false
  | .flat v => v.oneCell'
  | _ => true

mutual
/-- It leads to no block of the run's own. -/
def AV.clean : AV → Bool
  | .agg cs | .tup cs | .fn _ cs => cleanL cs
  | .iface _ x => x.clean
  | .sl .. | .ptr .. | .osl .. | .mp _ | .it _ | .junk => false
  | _ => true
def cleanL : List AV → Bool
  | [] => true
  | c :: cs => c.clean && cleanL cs
end

mutual
/-- What it leads to stands for the caller too. -/
def AV.stab : AV → Bool
  | .agg cs | .tup cs | .fn _ cs => stabL cs
  | .iface _ x => x.stab
  | .tsl st _ _ => st
  | .tptr st _ _ => st
  | .sl .. | .ptr .. | .osl .. | .mp _ | .it _ | .junk => false
  | _ => true
def stabL : List AV → Bool
  | [] => true
  | c :: cs => c.stab && stabL cs
end

def AV.cells : AV → List AV
  | .agg cs => cs
  | v => [v]

def ofC : Value → AV
  | .int k n => .int k n
  | .bool b => .bool b
  | .string s => .str s
  | v => .flat v

def ofConst : Value → AV
  | .agg cs => .agg (cs.toList.map ofC)
  | v => ofC v

def getA (fr : List AV) (t : Nat) : AV := fr.getD t .junk

def evalA (fr : List AV) : Operand → AV
  | .tmp t => getA fr t
  | .const v => ofConst v
  | .global g => .flat (.pointer (some ⟨g, 0, none⟩))
  | .func f => .fn f []

def putA (fr : List AV) (dst : Option Tmp) (v : AV) : List AV :=
  match dst with
  | some d => fr.set d v
  | none => fr

/-- A part of a row. -/
def partA (i : TyI) (row : List AV) (off : Nat) : Option AV :=
  if i.agg then (if off + i.size ≤ row.length then some (.agg ((row.drop off).take i.size)) else none) else row[off]?

def patch (row : List AV) (off : Nat) (cs : List AV) : List AV := row.take off ++ cs ++ row.drop (off + cs.length)

/-! ### Operations that look at no block -/

def intBin (op : BinOp) (k : IntKind) (a b : Int) : Option AV :=
  match op with
  | .add => some (.int k (k.wrap (a + b)))
  | .sub => some (.int k (k.wrap (a - b)))
  | .mul => some (.int k (k.wrap (a * b)))
  | .quo => if b = 0 then none else some (.int k (k.wrap (a.tdiv b)))
  | .rem => if b = 0 then none else some (.int k (a.tmod b))
  | .and => some (.int k (k.wrap (BitVec.ofInt k.bits a &&& BitVec.ofInt k.bits b).toNat))
  | .or => some (.int k (k.wrap (BitVec.ofInt k.bits a ||| BitVec.ofInt k.bits b).toNat))
  | .xor => some (.int k (k.wrap (BitVec.ofInt k.bits a ^^^ BitVec.ofInt k.bits b).toNat))
  | .andNot => some (.int k (k.wrap (BitVec.ofInt k.bits a &&& ~~~ BitVec.ofInt k.bits b).toNat))
  | .eql => some (.bool (a == b))
  | .neq => some (.bool (a != b))
  | .lss => some (.bool (decide (a < b)))
  | .leq => some (.bool (decide (a ≤ b)))
  | .gtr => some (.bool (decide (b < a)))
  | .geq => some (.bool (decide (b ≤ a)))
  | _ => none

def shiftBin (op : BinOp) (k : IntKind) (a y : Int) : Option AV :=
  if y < 0 then none else
  match op with
  | .shl => some (.int k (k.wrap (a * 2 ^ (min y.toNat k.bits))))
  | .shr => some (.int k (a.fdiv (2 ^ (min y.toNat k.bits))))
  | _ => none

def strBin (op : BinOp) (x y : ByteArray) : Option AV :=
  match op with
  | .add => if ((x.size + y.size : Nat) : Int) > 9223372036854775807 then none else some (.str (x ++ y))
  | .eql => some (.bool (x.toList == y.toList))
  | .neq => some (.bool (!(x.toList == y.toList)))
  | .lss => some (.bool (Op.bytesLess x.toList y.toList))
  | .leq => some (.bool (Op.bytesLess x.toList y.toList || x.toList == y.toList))
  | .gtr => some (.bool (!(Op.bytesLess x.toList y.toList || x.toList == y.toList)))
  | .geq => some (.bool (!Op.bytesLess x.toList y.toList))
  | _ => none

def eqCell : EK → AV → AV → Option Bool
  | .int, .int k a, .int k' b => if k = k' then some (a == b) else none
  | .bool, .bool a, .bool b => some (a == b)
  | .str, .str a, .str b => some (a == b)
  | _, _, _ => none

def eqCells : List EK → List AV → List AV → Option Bool
  | [], [], [] => some true
  | k :: ks, x :: xs, y :: ys => match eqCell k x y, eqCells ks xs ys with
    | some a, some b => some (a && b)
    | _, _ => none
  | _, _, _ => none

/-- '==' of two values that are no numbers and no strings. -/
def eqBin (X : Ctx) (t : TypeId) : AV → AV → Option Bool
  | .bool a, .bool b => match X.ty t with
    | some ⟨_, _, _, _, .bool⟩ => some (a == b)
    | _ => none
  | .agg xs, .agg ys => match X.eqT t with
    | some ks => eqCells ks xs ys
    | none => none
  | x, .flat (.slice none 0 0) => match X.ty t, x with
    | some ⟨_, _, _, _, .slice _⟩, .tsl _ _ (_ :: _) => some false
    | some ⟨_, _, _, _, .slice _⟩, .sl _ _ _ (_ + 1) _ => some false
    | some ⟨_, _, _, _, .slice _⟩, .flat (.slice none 0 0) => some true
    | some ⟨_, _, _, _, .slice _⟩, .flat (.slice (some _) _ _) => some false
    | _, _ => none
  | _, _ => none

def binA (X : Ctx) (op : BinOp) (t : TypeId) (x y : AV) : Option AV :=
  match op, x, y with
  | .shl, .int k a, .int _ b | .shr, .int k a, .int _ b => shiftBin op k a b
  | op, .int k a, .int k' b => if k = k' then intBin op k a b else none
  | op, .str a, .str b => strBin op a b
  | .eql, x, y => (eqBin X t x y).map .bool
  | .neq, x, y => (eqBin X t x y).map fun b => .bool (!b)
  | _, _, _ => none

def unA (op : UnOp) (x : AV) : Option AV :=
  match op, x with
  | .neg, .int k n => some (.int k (k.wrap (0 - n)))
  | .xor, .int k n => some (.int k (k.wrap (BitVec.ofInt k.bits (if k.signed then -1 else k.max) ^^^ BitVec.ofInt k.bits n).toNat))
  | .not, .bool b => some (.bool !b)
  | _, _ => none

def convA (X : Ctx) (src dst : TypeId) (x : AV) : Option AV :=
  match X.ty src, X.ty dst, x with
  | some _, some ⟨_, _, _, _, .int k⟩, .int _ n => some (.int k (k.wrap n))
  | some _, some ⟨_, _, _, _, .str⟩, .str s => some (.str s)
  | _, _, _ => none

def fillA (X : Ctx) (fs : List (Nat × TypeId)) : List AV → List (Nat × AV) → Option (List AV)
  | cells, [] => some cells
  | cells, (i, v) :: rest =>
    match fs[i]? with
    | none => none
    | some (off, t) =>
      match X.ty t with
      | none => none
      | some ti => if v.cells.length = ti.size ∧ off + v.cells.length ≤ cells.length ∧ v.cells.all AV.cell = true then fillA X fs (patch cells off v.cells) rest else none

def buildA (X : Ctx) (t : TypeId) (parts : List (Nat × AV)) : Option AV :=
  match X.ty t with
  | some ⟨_, _, _, z, .struct fs⟩ => (fillA X fs z parts).map .agg
  | _ => none

def fieldA (X : Ctx) (t : TypeId) (x : AV) (f : Nat) : Option AV :=
  match X.ty t, x with
  | some ⟨_, _, _, _, .struct fs⟩, .agg cs =>
    match fs[f]? with
    | some (off, ft) => match X.ty ft with
      | some i => partA i cs off
      | none => none
    | none => none
  | _, _ => none

def fieldAddrA (X : Ctx) (t : TypeId) (x : AV) (f : Nat) : Option AV :=
  match X.ty t with
  | some ⟨_, _, _, _, .struct fs⟩ =>
    match fs[f]? with
    | some (off, ft) => match X.ty ft with
      | some i => if i.size = 0 then none else match x with
        | .ptr b e sz row o => some (.ptr b e sz row (o + off))
        | .tptr st row o => some (.tptr st row (o + off))
        | _ => none
      | none => none
    | none => none
  | _ => none

def indexAddrA (X : Ctx) (t : TypeId) (x i : AV) : Option AV :=
  match X.ty t, i with
  | some ⟨_, _, _, _, .slice el⟩, .int _ n =>
    match X.ty el with
    | some ei => match x with
      | .sl b e off len sz => if 0 ≤ n ∧ n < (len : Int) ∧ sz = ei.size then some (.ptr b e sz (off + n.toNat) 0) else none
      | .tsl st sz rows => if 0 ≤ n ∧ sz = ei.size then (match rows[n.toNat]? with | some row => some (.tptr st row 0) | none => none) else none
      | _ => none
    | none => none
  | _, _ => none

def indexA (X : Ctx) (t : TypeId) (x i : AV) : Option AV :=
  match X.ty t, x, i with
  | some ⟨_, _, _, _, .str⟩, .str s, .int _ n => if 0 ≤ n then (match s[n.toNat]? with | some b => some (.int .u8 b.toNat) | none => none) else none
  | some ⟨_, _, _, _, .array len el⟩, .agg cs, .int _ n => match X.ty el with
    | some ei => if 0 ≤ n ∧ n < (len : Int) then partA ei cs (n.toNat * ei.size) else none
    | none => none
  | _, _, _ => none

def boundA : Option AV → Nat → Option Nat
  | none, d => some d
  | some (.int _ n), _ => if 0 ≤ n then some n.toNat else none
  | some _, _ => none

def sliceA (X : Ctx) (t : TypeId) (x : AV) (lo hi mx : Option AV) : Option AV :=
  match X.ty t, x, mx with
  | some ⟨_, _, _, _, .str⟩, .str s, none =>
    match boundA lo 0, boundA hi s.size with
    | some l, some h => if l ≤ h ∧ h ≤ s.size then some (.str (s.extract l h)) else none
    | _, _ => none
  | some ⟨_, _, _, _, .slice el⟩, .sl b e off len sz, none =>
    match boundA lo 0, boundA hi len, X.ty el with
    | some l, some h, some ei => if l ≤ h ∧ h ≤ len ∧ sz = ei.size then (if l = 0 then some (.sl b e off h sz) else if l = h then some (.tsl true sz []) else some (.sl b e (off + l) (h - l) sz)) else none
    | _, _, _ => none
  | some ⟨_, _, _, _, .slice el⟩, .tsl st sz rows, none =>
    match boundA lo 0, boundA hi rows.length, X.ty el with
    | some l, some h, some ei => if l ≤ h ∧ h ≤ rows.length ∧ sz = ei.size then some (.tsl st sz ((rows.drop l).take (h - l))) else none
    | _, _, _ => none
  | some ⟨_, _, _, _, .slice el⟩, .flat (.slice none 0 0), none =>
    match boundA lo 0, boundA hi 0, X.ty el with
    | some 0, some 0, some ei => some (.tsl true ei.size [])
    | _, _, _ => none
  | some ⟨_, _, _, _, .slice el⟩, .sl .., some (.int _ 0) | some ⟨_, _, _, _, .slice el⟩, .tsl .., some (.int _ 0) | some ⟨_, _, _, _, .slice el⟩, .esl, some (.int _ 0)
  | some ⟨_, _, _, _, .slice el⟩, .flat (.slice none 0 0), some (.int _ 0) =>
    match boundA lo 0, boundA hi 1, X.ty el with
    | some 0, some 0, some _ => some .esl
    | _, _, _ => none
  | _, _, _ => none

def lenA : AV → Option Nat
  | .str s => some s.size
  | .sl _ _ _ len _ => some len
  | .tsl _ _ rows => some rows.length
  | .esl => some 0
  | .flat (.slice none 0 0) => some 0
  | _ => none

def minmaxGo (mx : Bool) : AV → List AV → Option AV
  | x, [] => some x
  | .int k a, .int _ b :: rest => minmaxGo mx (.int k (if mx then (if b > a then b else a) else (if b < a then b else a))) rest
  | _, _ => none

def minmaxA (mx : Bool) : List AV → Option AV
  | [] => none
  | x :: rest => minmaxGo mx x rest

/-- An operation that only computes. -/
def popA (X : Ctx) (fr : List AV) (o : Oper) : Option AV :=
  match o.op with
  | .move x | .assign x => match x with
    | .const (.slice none 0 0) => none
    | x => some (evalA fr x)
  | .pick c a b => match evalA fr c with
    | .bool t => some (if t then evalA fr a else evalA fr b)
    | _ => none
  | .nilCheck x => match evalA fr x with
    | .ptr b e sz row off => some (.ptr b e sz row off)
    | .tptr st row off => some (.tptr st row off)
    | .iface t x => some (.iface t x)
    | _ => none
  | .makeInterface t x => match X.ty t with
    | some i => if i.desc.solid then some (.iface t (evalA fr x)) else none
    | none => none
  | .binOp op t x y _ => binA X op t (evalA fr x) (evalA fr y)
  | .unOp op _ x => unA op (evalA fr x)
  | .convert s d x => convA X s d (evalA fr x)
  | .build t parts => buildA X t (parts.toList.map fun p => (p.1, evalA fr p.2))
  | .field t x f => fieldA X t (evalA fr x) f
  | .fieldAddr t x f => fieldAddrA X t (evalA fr x) f
  | .indexAddr t x i => indexAddrA X t (evalA fr x) (evalA fr i)
  | .index t x i => indexA X t (evalA fr x) (evalA fr i)
  | .slice t x lo hi mx => sliceA X t (evalA fr x) (lo.map (evalA fr)) (hi.map (evalA fr)) (mx.map (evalA fr))
  | .makeFunc (.func f) first captured => if first.size = 0 then some (.fn f (captured.toList.map (evalA fr))) else none
  | .extract x i => match evalA fr x with
    | .tup vs => vs[i]?
    | _ => none
  | .call { callee := .builtin .len, args, argTypes } => match args.toList, argTypes.toList with
    | [x], [t] => match X.ty t, lenA (evalA fr x) with
      | some ⟨_, _, _, _, .slice _⟩, some n => (match evalA fr x with | .str _ => none | _ => some (.int .i64 n))
      | some ⟨_, _, _, _, .str⟩, some n => (match evalA fr x with | .str _ => some (.int .i64 n) | _ => none)
      | _, _ => none
    | _, _ => none
  | .call { callee := .builtin .max, args, .. } => minmaxA true (args.toList.map (evalA fr))
  | .call { callee := .builtin .min, args, .. } => minmaxA false (args.toList.map (evalA fr))
  | _ => none

/-! ### Operations that read blocks, or make one -/

def rowOf (S : Store) (b e sz row : Nat) : Option (List AV) :=
  match S[b]? with
  | some (.arr rows sz' wep _) => if sz' = sz ∧ wep ≤ e ∧ row < e then rows[row]? else none
  | _ => none

/-- The rows that a slice shows. -/
def rowsOf (S : Store) (sz : Nat) : AV → Option (List (List AV) × Bool)
  | .tsl _ sz' rows => if sz' = sz then some (rows, true) else none
  | .sl b e off len sz' => match S[b]? with
    | some (.arr rows sz'' wep pr) => if sz' = sz ∧ sz'' = sz ∧ wep ≤ e ∧ off + len ≤ e ∧ e ≤ rows.length then some ((rows.drop off).take len, pr) else none
    | _ => none
  | .esl => some ([], true)
  | .flat (.slice none 0 0) => some ([], true)
  | .flat (.slice (some _) 0 cap) => if cap ≤ maxLen then some ([], true) else none
  | _ => none

def rowsFill (sz : Nat) : List (List AV) → List (Nat × AV) → Option (List (List AV))
  | rows, [] => some rows
  | rows, (i, v) :: rest => if v.cells.length = sz ∧ i < rows.length then rowsFill sz (rows.set i v.cells) rest else none

def bytesOf : List (List AV) → Option (List UInt8)
  | [] => some []
  | [.int .u8 n] :: rest => (bytesOf rest).map (UInt8.ofNat n.toNat :: ·)
  | _ => none

def eqKeys : List AV → List AV → Option Bool
  | [], [] => some true
  | .int k a :: xs, .int k' b :: ys => if k = k' then (match eqKeys xs ys with
    | some c => some (a == b && c)
    | none => none) else none
  | _, _ => none

/-- Are two keys the same? -/
def eqKey : AV → AV → Option Bool
  | .int k a, .int k' b => if k = k' then some (a == b) else none
  | .str a, .str b => some (a == b)
  | .agg xs, .agg ys => eqKeys xs ys
  | _, _ => none

/-- A key's place. -/
def findA (k : AV) : List (AV × AV) → Option (Option AV)
  | [] => some none
  | e :: es => match eqKey k e.1 with
    | some true => some (some e.2)
    | some false => findA k es
    | none => none

/-- A key's value, written. -/
def updA (k v : AV) : List (AV × AV) → List (AV × AV)
  | [] => [(k, v)]
  | e :: es => match eqKey k e.1 with
    | some true => (k, v) :: es
    | _ => e :: updA k v es

def keyIs : List EK → List AV → Bool
  | [], [] => true
  | .int :: ks, .int _ _ :: xs => keyIs ks xs
  | _, _ => false

/-- May it be a key of this type? -/
def keyA (X : Ctx) (t : TypeId) (d : TD) (k : AV) : Bool :=
  match d, k with
  | .int j, .int j' _ => decide (j = j')
  | .str, .str _ => true
  | .struct _, .agg xs => match X.eqT t with
    | some ks => keyIs ks xs
    | none => false
  | _, _ => false

def unCells (i : TyI) (cs : List AV) : Option AV := if i.agg then some (.agg cs) else cs[0]?

/-- A slice that is written out. -/
def bsA (X : Ctx) (d : Bool) (id : Nat) (t : TypeId) (len : Nat) (pos : String) (ps : List (Nat × AV)) : Option (AV × List Blk) :=
  match X.ty t with
  | some ⟨_, _, _, _, .slice el⟩ => match X.ty el with
    | some ei =>
      if d = true ∧ len = 0 then (if ps.length = 0 ∧ ei.zero.length = ei.size then some (.esl, []) else none) else
      if len * ei.size ≤ 16777216 ∧ ei.zero.length = ei.size ∧ 0 < ei.size ∧ (ps.all fun p => p.2.cells.all AV.cell) then
        match rowsFill ei.size (List.replicate len ei.zero) ps with
        | some rows => if (X.frz pos && ps.all fun p => stabL p.2.cells) = true then some (.tsl true ei.size rows, []) else some (.sl id len 0 len ei.size, [.arr rows ei.size 0 (ps.all fun p => stabL p.2.cells)])
        | none => none
      else none
    | none => none
  | _ => none

/-- 'd': the region draws its order. 'id': the number of the block that it may make. -/
def qopA (X : Ctx) (d : Bool) (S : Store) (id : Nat) (fr : List AV) (o : Oper) : Option (AV × List Blk) :=
  match o.op with
  | .load t p => match X.ty t with
    | some i => match evalA fr p with
      | .ptr b e sz row off => match rowOf S b e sz row with
        | some r => (partA i r off).map fun v => (v, [])
        | none => none
      | .tptr _ r off => (partA i r off).map fun v => (v, [])
      | .flat (.pointer (some ⟨g, 0, none⟩)) => match X.glob g with
        | some r => (partA i r 0).map fun v => (v, [])
        | none => none
      | _ => none
    | none => none
  | .alloc t => match X.ty t with
    | some i => if i.zero.length = i.size then some (.ptr id 1 i.size 0 0, [.arr [i.zero] i.size 0 true]) else none
    | none => none
  | .box t x =>
    let cs := (evalA fr x).cells
    if cs.all AV.cell then some (.ptr id 1 cs.length 0 0, [.arr [cs] cs.length 0 (stabL cs)]) else none
  | .buildSlice t len parts => bsA X d id t len o.pos (parts.toList.map fun p => (p.1, evalA fr p.2))
  | .makeSlice t l c => match evalA fr l, evalA fr c with
    | .int _ n, .int _ m => match X.ty t with
      | some ⟨_, _, _, _, .slice el⟩ => match X.ty el with
        | some ei => if n = m ∧ 0 ≤ n ∧ n ≤ 16777216 ∧ n.toNat * ei.size ≤ 16777216 ∧ ei.bytes * n.toNat ≤ 140737488355328 then bsA X d id t n.toNat o.pos [] else none
        | none => none
      | _ => none
    | _, _ => none
  | .convert s d x => match X.ty s, X.ty d, evalA fr x with
    | some ⟨_, _, _, _, .str⟩, some ⟨_, _, _, _, .slice el⟩, .str v => match X.ty el with
      | some ⟨_, _, _, _, .int .u8⟩ => if v.size ≤ 140737488355328 then some (.tsl true 1 (v.toList.map fun c => [.int .u8 (c.toNat : Int)]), []) else none
      | _ => none
    | some ⟨_, _, _, _, .slice el⟩, some ⟨_, _, _, _, .str⟩, y => match X.ty el, rowsOf S 1 y with
      | some ⟨_, _, _, _, .int .u8⟩, some (rows, _) => (bytesOf rows).map fun l => (.str ⟨l.toArray⟩, [])
      | _, _ => none
    | _, _, _ => none
  | .makeMap _ none => some (.mp id, [.map []])
  | .lookup t x k ok => match X.ty t, evalA fr x with
    | some ⟨_, _, _, _, .map kt et⟩, .mp b => match S[b]?, X.ty kt, X.ty et with
      | some (.map es), some ki, some ei => if keyA X kt ki.desc (evalA fr k) = true then
        match findA (evalA fr k) es, unCells ei ei.zero with
        | some (some v), _ => some (if ok then .tup [v, .bool true] else v, [])
        | some none, some z => some (if ok then .tup [z, .bool false] else z, [])
        | _, _ => none
        else none
      | _, _, _ => none
    | _, _ => none
  | .range t x => match X.ty t, evalA fr x with
    | some ⟨_, _, _, _, .map _ _⟩, .mp mb => match S[mb]? with
      | some (.map es) => if es.length ≤ 1 then some (.it id, [.iter mb es.length false]) else none
      | _ => none
    | _, _ => none
  | .entry x => match evalA fr x with
    | .it b => match S[b]? with
      | some (.iter mb 1 true) => match S[mb]? with
        | some (.map [e]) => some (.tup [e.1, e.2], [])
        | _ => none
      | _ => none
    | _ => none
  | _ => none

/-- A nil slice, and 'append' onto nothing. -/
def nopA (X : Ctx) (d : Bool) (S : Store) (id : Nat) (fr : List AV) (o : Oper) : Option (AV × List Blk) :=
  match o.op with
  | .move (.const (.slice none 0 0)) | .assign (.const (.slice none 0 0)) =>
    if d then some (.flat (.slice none 0 0), []) else
    match X.ty o.type with
    | some ⟨_, _, _, _, .slice el⟩ => match X.ty el with
      | some ei => some (.sl id 0 0 0 ei.size, [.arr [] ei.size 0 true])
      | none => none
    | _ => none
  | .call { callee := .builtin .append, args, argTypes } => match args.toList, argTypes.toList with
    | [s, x], [t, u] => match X.ty t with
      | some ⟨_, _, _, _, .slice el⟩ => match X.ty el with
        | some ei => if t = u ∧ 0 < ei.size ∧ ei.zero.length = ei.size then
          match rowsOf S ei.size (evalA fr x) with
          | some (news, prn) =>
            match evalA fr s with
            | .esl => if news.length = 0 then some (.esl, []) else
              if news.length * ei.bytes ≤ 140737488355328 ∧ news.length ≤ 140737488355328 then some (.sl id news.length 0 news.length ei.size, [.arr news ei.size 0 prn]) else none
            | .flat (.slice none 0 0) => if news.length = 0 then some (.flat (.slice none 0 0), []) else
              if news.length * ei.bytes ≤ 140737488355328 ∧ news.length ≤ 140737488355328 then some (.sl id news.length 0 news.length ei.size, [.arr news ei.size 0 prn]) else none
            | _ => none
          | none => none
          else none
        | none => none
      | _ => none
    | _, _ => none
  | _ => none

/-! ### Operations that write -/

def eopA (X : Ctx) (S : Store) (fr : List AV) (o : Oper) : Option (AV × Store) :=
  match o.op with
  | .store t p x => match X.ty t, evalA fr p with
    | some i, .ptr b e sz row off => match S[b]? with
      | some (.arr rows sz' wep pr) =>
        let cs := (evalA fr x).cells
        if sz' = sz ∧ rows.length = e ∧ wep ≤ e ∧ row < e ∧ cs.length = i.size ∧ off + cs.length ≤ sz ∧ cs.all AV.cell then
          some (.flat undef, S.set b (.arr (rows.set row (patch (rows.getD row []) off cs)) sz e (pr && stabL cs)))
        else none
      | _ => none
    | _, _ => none
  | .mapUpdate t m k x => match X.ty t, evalA fr m with
    | some ⟨_, _, _, _, .map kt _⟩, .mp b => match S[b]?, X.ty kt with
      | some (.map es), some ki => if keyA X kt ki.desc (evalA fr k) = true ∧ (evalA fr x).stab = true ∧ (findA (evalA fr k) es).isSome = true then some (.flat undef, S.set b (.map (updA (evalA fr k) (evalA fr x) es))) else none
      | _, _ => none
    | _, _ => none
  | .next x false => match evalA fr x with
    | .it b => match S[b]? with
      | some (.iter mb n dn) => match S[mb]? with
        | some (.map es) => if es.length = n then
            match es, dn with
            | [], _ => some (.tup [.bool false], S)
            | [e], false => some (.tup [.bool true, e.1, e.2], S.set b (.iter mb n true))
            | [_], true => some (.tup [.bool false], S)
            | _, _ => none
          else none
        | _ => none
      | _ => none
    | _ => none
  | .call { callee := .builtin .append, args, argTypes } => match args.toList, argTypes.toList with
    | [s, x], [t, u] => match X.ty t with
      | some ⟨_, _, _, _, .slice el⟩ => match X.ty el with
        | some ei => if t = u ∧ 0 < ei.size ∧ ei.zero.length = ei.size then
          match rowsOf S ei.size (evalA fr x) with
          | some (news, prn) =>
            match evalA fr s with
            | .sl b e off len sz => match S[b]? with
              | some (.arr rows sz' wep pr) =>
                if off = 0 ∧ len = e ∧ rows.length = e ∧ wep ≤ e ∧ sz = ei.size ∧ sz' = sz ∧ (e + news.length) * ei.bytes ≤ 140737488355328 ∧ e + news.length ≤ 140737488355328 then
                  (if news.length = 0 then some (.sl b e off len sz, S) else some (.sl b (e + news.length) 0 (e + news.length) sz, S.set b (.arr (rows ++ news) sz wep (pr && prn))))
                else none
              | _ => none
            | _ => none
          | none => none
          else none
        | none => none
      | _ => none
    | _, _ => none
  | .call { callee := .builtin .clear, args, argTypes } => match args.toList, argTypes.toList with
    | [s], [t] => match X.ty t, evalA fr s with
      | some ⟨_, _, _, _, .slice el⟩, .sl b e off len sz => match X.ty el, S[b]? with
        | some ei, some (.arr rows sz' wep pr) =>
          if rows.length = e ∧ wep ≤ e ∧ sz = ei.size ∧ sz' = sz ∧ ei.zero.length = sz ∧ off + len ≤ e then
            (if len = 0 then some (.tup [], S) else some (.tup [], S.set b (.arr (rows.take off ++ List.replicate len ei.zero ++ rows.drop (off + len)) sz e pr)))
          else none
        | _, _ => none
      | some ⟨_, _, _, _, .slice _⟩, .tsl _ _ [] => some (.tup [], S)
      | _, _ => none
    | _, _ => none
  | _ => none

/-- slices.Clone at rows of 'sz' cells. -/
def primClone (sz : Nat) (args : List AV) (S : Store) : Option (AV × Store) :=
  match args with
  | [x] => match rowsOf S sz x with
    | some (rows, pr) => if rows.length ≤ 1073741824 then some (.sl (S.length + 1) rows.length 0 rows.length sz, S ++ [.arr [] sz 0 true, .arr rows sz 0 (pr || rows.isEmpty)]) else none
    | none => none
  | _ => none

/-! ### Calls -/

/-- A cell behind a pointer, as such a callee sees it: what it cannot see is nothing. -/
def snapC (S : Store) (c : AV) : AV :=
  if c.clean then c else
  match c with
  | .sl b e off len sz => match rowsOf S sz (.sl b e off len sz) with
    | some (rows, pr) => if pr || rows.all stabL then .tsl false sz rows else .junk
    | none => .junk
  | _ => .junk

mutual
/-- The value as a callee sees it that gets no hold on the caller's blocks. -/
def snap (S : Store) : AV → Option AV
  | .agg cs => match snapL S cs with | some l => some (.agg l) | none => none
  | .tup cs => match snapL S cs with | some l => some (.tup l) | none => none
  | .fn f cs => match snapL S cs with | some l => some (.fn f l) | none => none
  | .iface t x => match snap S x with | some l => some (.iface t l) | none => none
  | .sl b e off len sz => match rowsOf S sz (.sl b e off len sz) with
    | some (rows, pr) => if pr || rows.all stabL then some (.tsl false sz rows) else none
    | none => none
  | .ptr b e sz row off => match rowOf S b e sz row with
    | some r => if cleanL r then some (.tptr false r off) else some (.tptr false (r.map (snapC S)) off)
    | none => none
  | .osl .. => none
  | .mp _ => none
  | .it _ => none
  | .junk => some .junk
  | v => some v
def snapL (S : Store) : List AV → Option (List AV)
  | [] => some []
  | c :: cs => match snap S c with
    | some c' => match snapL S cs with
      | some cs' => some (c' :: cs')
      | none => none
    | none => none
end

/-- A slice of the callee's own inside of a struct, or a part of one: from now on nobody writes it. -/
def expCell (S : Store) : AV → Option AV
  | .sl b e off len sz => match rowsOf S sz (.sl b e off len sz) with
    | some (rows, pr) => if pr || rows.all stabL then some (.tsl true sz rows) else none
    | none => none
  | v => if v.stab then some v else none

def expCells (S : Store) : List AV → Option (List AV)
  | [] => some []
  | c :: cs => match expCell S c with
    | some c' => match expCells S cs with
      | some cs' => some (c' :: cs')
      | none => none
    | none => none

/-- What a callee hands back that began without blocks: a slice of its own, whole, is the caller's from now on. -/
def expTop (S : Store) : AV → Option AV
  | .sl b e off len sz =>
    if off = 0 ∧ len = e then
      match S[b]? with
      | some (.arr rows sz' wep pr) => if sz' = sz ∧ rows.length = e ∧ wep ≤ e ∧ (pr || rows.all stabL) = true then some (.osl sz rows) else none
      | _ => none
    else expCell S (.sl b e off len sz)
  | .agg cs => match expCells S cs with
    | some cs' => some (.agg cs')
    | none => none
  | v => if v.stab then some v else none

def expTops (S : Store) : List AV → Option (List AV)
  | [] => some []
  | c :: cs => match expTop S c with
    | some c' => match expTops S cs with
      | some cs' => some (c' :: cs')
      | none => none
    | none => none

def cellIds : List AV → List Nat
  | [] => []
  | .sl b _ _ _ _ :: cs => b :: cellIds cs
  | _ :: cs => cellIds cs

def ownIds : List AV → List Nat
  | [] => []
  | .sl b e off len _ :: cs => if off = 0 ∧ len = e then b :: ownIds cs else ownIds cs
  | _ :: cs => ownIds cs

def lentIds : List AV → List Nat
  | [] => []
  | .sl b e off len _ :: cs => if off = 0 ∧ len = e then lentIds cs else b :: lentIds cs
  | .agg ds :: cs => cellIds ds ++ lentIds cs
  | _ :: cs => lentIds cs

/-- No block is handed back twice, if once to be written. -/
def idsOK (cs : List AV) : Bool :=
  match ownIds cs with
  | [] => true
  | os => decide os.Nodup && os.all fun b => !(lentIds cs).contains b

def exportA (S : Store) : AV → Option AV
  | .tup cs => if idsOK cs then (match expTops S cs with | some l => some (.tup l) | none => none) else none
  | v => if idsOK [v] then expTop S v else none

def exportN (S : Store) : AV → Option AV
  | .agg cs => if idsOK cs then (match expTops S cs with | some l => some (.agg l) | none => none) else none
  | _ => none

def adopt1 (id : Nat) : AV → AV × List Blk
  | .osl sz rows => (.sl id rows.length 0 rows.length sz, [.arr rows sz 0 true])
  | v => (v, [])

def adoptL (id : Nat) : List AV → List AV × List Blk
  | [] => ([], [])
  | c :: cs =>
    let r := adopt1 id c
    let r' := adoptL (id + r.2.length) cs
    (r.1 :: r'.1, r.2 ++ r'.2)

def adoptA (id : Nat) : AV → AV × List Blk
  | .tup cs => let r := adoptL id cs; (.tup r.1, r.2)
  | v => adopt1 id v

def adoptN (id : Nat) : AV → AV × List Blk
  | .agg cs => let r := adoptL id cs; (.agg r.1, r.2)
  | v => (v, [])

def frz1 : AV → AV
  | .osl sz rows => .tsl true sz rows
  | v => v

/-- What was handed back, to be written no more. -/
def freezeA : AV → AV
  | .tup cs => .tup (cs.map frz1)
  | v => frz1 v

/-- 'z': the caller writes nothing of what it gets here. -/
def adoptZ (z : Bool) (id : Nat) (r : AV) : AV × List Blk := if z = true then (freezeA r, []) else adoptA id r

abbrev CallFn := FuncId → List AV → Store → Option (AV × Store)

/-- A call by value. -/
def callV (call : CallFn) (f : FuncId) (args : List AV) : Option AV :=
  match call f args [] with
  | some (r, S) => exportA S r
  | none => none

/-- The same, for a struct whose slices become the caller's own. -/
def callVN (call : CallFn) (f : FuncId) (args : List AV) : Option AV :=
  match call f args [] with
  | some (r, S) => exportN S r
  | none => none

inductive Kind where | p | q | e | v | r
  deriving DecidableEq

def calleeOf (X : Ctx) (fr : List AV) (o : Oper) : Option (FuncId × List AV) :=
  match o.op with
  | .call { callee := .value f, args, .. } => match evalA fr f with
    | .fn g caps => some (g, args.toList.map (evalA fr) ++ caps)
    | _ => none
  | .call { callee := .invoke r m, args, .. } => match evalA fr r with
    | .iface t x => match X.meth t m with
      | some g => some (g, x :: args.toList.map (evalA fr))
      | none => none
    | _ => none
  | _ => none

/-- A call, by its name, of a function that works on the caller's blocks. -/
def staticRef (X : Ctx) (o : Oper) : Bool :=
  match o.op with
  | .call { callee := .value (.func f), .. } => X.byRef f
  | .call { callee := .invoke _ m, .. } => X.refM m
  | _ => false

/-- Does 'append' add rows that stand for themselves? -/
def apdOK (S : Store) (fr : List AV) (o : Oper) : Bool :=
  match o.op with
  | .call { callee := .builtin .append, args, .. } => match args.toList with
    | [s, x] => match evalA fr s with
      | .sl _ _ _ _ sz => match rowsOf S sz (evalA fr x) with
        | some (_, prn) => prn
        | none => false
      | _ => false
    | _ => false
  | _ => true

def stepA (X : Ctx) (d : Bool) (call : CallFn) (st : St) (o : Oper) : Option (AV × Store) :=
  match popA X st.fr o with
  | some v => some (v, st.S)
  | none => match qopA X d st.S st.S.length st.fr o with
    | some (v, nb) => some (v, st.S ++ nb)
    | none => match nopA X d st.S st.S.length st.fr o with
     | some (v, nb) => some (v, st.S ++ nb)
     | none => match calleeOf X st.fr o with
      | some (f, args) =>
        if X.byRef f then (if d && !staticRef X o then none else call f args st.S)
        else match snapL st.S args with
          | some args' => if X.nest f then (match callVN call f args' with
            | some r => let a := adoptN st.S.length r; some (a.1, st.S ++ a.2)
            | none => none) else match callV call f args' with
            | some r => let a := adoptZ (X.frz o.pos) st.S.length r; some (a.1, st.S ++ a.2)
            | none => none
          | none => none
      | none => if d && !apdOK st.S st.fr o then none else eopA X st.S st.fr o

def guardA (ops : Array Oper) (fr : List AV) (o : Oper) : Option Bool :=
  match o.guard with
  | none => some true
  | some (j, want) => match (ops[j]?).bind (·.dst) with
    | none => none
    | some d => match getA fr d with
      | .bool b => some (b == want)
      | .flat (.tuple _) => some false
      | _ => none

/-- Do the two lead to different blocks? -/
def apartA : AV → AV → Bool
  | .ptr b _ _ _ _, .ptr b' _ _ _ _ => decide (b ≠ b')
  | .tptr .., .ptr .. => true
  | _, _ => false

def lateOK (X : Ctx) (fr : List AV) (o : Oper) : Bool :=
  match o.op with
  | .store _ p _ => (X.late o.pos).all fun t => apartA (getA fr t) (evalA fr p)
  | _ => true

def opsA (X : Ctx) (d : Bool) (call : CallFn) (ops : Array Oper) : List Oper → St → Option St
  | [], st => some st
  | o :: rest, st => match guardA ops st.fr o with
    | some true => if (d && !lateOK X st.fr o) = true then none else match stepA X d call st o with
      | some (v, S') => opsA X d call ops rest ⟨putA st.fr o.dst v, S'⟩
      | none => none
    | some false => opsA X d call ops rest ⟨putA st.fr o.dst (.flat undef), st.S⟩
    | none => none

inductive Ex where
  | normal
  | exit (id : Nat)
  | ret

def loopA (body : St → Option (Ex × St)) : Nat → St → Option (Ex × St)
  | 0, _ => none
  | n + 1, st => match body st with
    | some (.normal, st') => loopA body n st'
    | r => r

def execA (X : Ctx) (call : CallFn) (n : Nat) : Code → St → Option (Ex × St)
  | .skip, st => some (.normal, st)
  | .region _ ops d, st => match opsA X d call ops ops.toList st with
    | some st' => some (.normal, st')
    | none => none
  | .seq a b, st => match execA X call n a st with
    | some (.normal, st') => execA X call n b st'
    | r => r
  | .cond c a b, st => match evalA st.fr c with
    | .bool t => if t then execA X call n a st else execA X call n b st
    | _ => none
  | .block id c, st => match execA X call n c st with
    | some (.exit id', st') => if id' = id then some (.normal, st') else some (.exit id', st')
    | r => r
  | .loop c, st => loopA (execA X call n c) n st
  | .exit id, st => some (.exit id, st)
  | .ret, st => some (.ret, st)
  | _, _ => none

def resultA (X : Ctx) (st : St) : ResultVar → Option AV
  | .tmp t => some (getA st.fr t)
  | .cell a t => match X.ty t with
    | some i => match getA st.fr a with
      | .ptr b e sz row off => match rowOf st.S b e sz row with
        | some r => partA i r off
        | none => none
      | _ => none
    | none => none

def resultsL (X : Ctx) (st : St) : List ResultVar → Option (List AV)
  | [] => some []
  | r :: rs => match resultA X st r with
    | some v => match resultsL X st rs with
      | some vs => some (v :: vs)
      | none => none
    | none => none

def resultsA (X : Ctx) (fn : Func) (st : St) : Option AV :=
  match resultsL X st fn.results.toList with
  | some [v] => some v
  | some vs => some (.tup vs)
  | none => none

def callN (X : Ctx) : Nat → CallFn
  | 0, _, _, _ => none
  | n + 1, f, args, S => match X.prim f with
    | some p => p args S
    | none => match X.fn f with
      | none => none
      | some fn => match fn.body with
        | none => none
        | some c => match execA X (callN X n) n c ⟨args ++ List.replicate (fn.ntmps - args.length) (.flat undef), S⟩ with
          | some (.normal, st) | some (.ret, st) => match resultsA X fn st with
            | some v => some (v, st.S)
            | none => none
          | _ => none

end Go.Eng
