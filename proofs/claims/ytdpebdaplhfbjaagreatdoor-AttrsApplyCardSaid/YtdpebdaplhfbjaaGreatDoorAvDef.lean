/-
  ABS, 1: an abstract, deterministic, executable semantics of the intermediate code: abstract values, an abstract heap (a trie of objects), the operations. Definitions alone; nothing is proved here.
-/
import Derived.Calls
namespace Go.Av
inductive AVal where
 | undef
 | bool (b : Bool)
 | int (k : IntKind) (n : Int)
 | str (s : List UInt8)
 | ptr (r : Option (Nat × Nat))
 | gptr (g o : Nat)
 | slice (r : Option (Nat × Nat)) (len : Nat)
 | map (r : Option Nat)
 | chan (r : Option Nat)
 | func (fn : Fn) (first captured : List AVal)
 | nilFunc
 | iface (t : TypeId) (v : AVal)
 | nilIface
 | agg (cs : List AVal)
 | tuple (vs : List AVal)
 | vsl (n : Nat) (cs : List AVal)
 | vptr (cs : List AVal)
 | yfn (l : Nat)
 deriving Inhabited
inductive AObj where
 | cells (grow : Option TypeId) (st : Nat) (cs : List AVal)
 | map (st : Nat) (es : List (AVal × AVal))
 | iter (s : List UInt8) (pos : Nat)
 | loop (st : Nat) (pend : Option Code) (f : FuncId) (fr : List AVal) (ps : List Tmp) (a b : Code)
 | chan (cap : Nat) (buf : List AVal)
 deriving Inhabited
inductive Tr (α : Type) where
 | leaf
 | node (l : Tr α) (v : Option α) (r : Tr α)
def Tr.get {α : Type} : Tr α → Nat → Option α
 | .leaf, _ => none
 | .node l v r, i => bif Nat.beq i 0 then v else bif Nat.beq (i % 2) 1 then l.get (i / 2) else r.get (i / 2 - 1)
def Tr.set {α : Type} : Nat → Tr α → Nat → α → Tr α
 | 0, t, _, _ => t
 | f + 1, .leaf, i, x => bif Nat.beq i 0 then .node .leaf (some x) .leaf else bif Nat.beq (i % 2) 1 then .node (Tr.set f .leaf (i / 2) x) none .leaf else .node .leaf none (Tr.set f .leaf (i / 2 - 1) x)
 | f + 1, .node l v r, i, x => bif Nat.beq i 0 then .node l (some x) r else bif Nat.beq (i % 2) 1 then .node (Tr.set f l (i / 2) x) v r else .node l v (Tr.set f r (i / 2 - 1) x)
structure AHeap where
 size : Nat
 tr : Tr AObj
def AHeap.get (h : AHeap) (i : Nat) : Option AObj := bif Nat.blt i h.size then h.tr.get i else none
def AHeap.set (h : AHeap) (i : Nat) (o : AObj) : AHeap := ⟨h.size, Tr.set (i + 1) h.tr i o⟩
def AHeap.push (h : AHeap) (o : AObj) : AHeap := ⟨h.size + 1, Tr.set (h.size + 1) h.tr h.size o⟩
structure Gd where
 floor : Nat
 prot : List Nat
def Gd.may (g : Gd) (id : Nat) : Bool := Nat.ble g.floor id && !(g.prot.any (Nat.beq id))
abbrev Fr := List AVal
def nth : List AVal → Nat → AVal
 | [], _ => .tuple []
 | a :: _, 0 => a
 | _ :: l, i + 1 => nth l i
def put (fr : Fr) (dst : Option Tmp) (v : AVal) : Fr :=
 match dst with
 | some d => fr.set d v
 | none => fr
def AVal.one : AVal → Bool
 | .undef | .agg _ | .tuple _ => false
 | _ => true
def AVal.cells? : AVal → Option (List AVal)
 | .undef | .tuple _ => none
 | .agg cs => some cs
 | v => some [v]
def ofV1 : Value → AVal
 | .bool b => .bool b
 | .int k n => .int k n
 | .string s => .str s.data.toList
 | .pointer none => .ptr none
 | .slice none 0 0 => .slice none 0
 | .map none => .map none
 | .chan none => .chan none
 | .nilFunc => .nilFunc
 | .nilIface => .nilIface
 | _ => .undef
def ofV : Value → AVal
 | .agg cs => .agg (cs.toList.map ofV1)
 | .tuple vs => .tuple (vs.toList.map ofV1)
 | v => ofV1 v
def ev (fr : Fr) : Operand → AVal
 | .tmp t => nth fr t
 | .const v => ofV v
 | .global g => .gptr g 0
 | .func f => .func (.func f) [] []
def splice (cs : List AVal) (o : Nat) (new : List AVal) : List AVal := cs.take o ++ (new ++ cs.drop (o + new.length))
section
variable (P : Program)
def szOf (t : TypeId) : Option Nat := (P.info? t).map (·.size)
def isAggT (t : TypeId) : Option Bool :=
 match P.underlying t with
 | some (.struct _) | some (.array _ _) => some true
 | some _ => some false
 | none => none
def cellsAt (ob : Option AObj) (o n : Nat) : Option (List AVal) :=
 match ob with
 | some (.cells _ st cs) => if st ≠ 0 ∧ o + n ≤ cs.length then some ((cs.drop o).take n) else none
 | _ => none
def loadA (ob : Option AObj) (t : TypeId) (o : Nat) : Option AVal :=
 match isAggT P t with
 | some true => (szOf P t).bind fun n => (cellsAt ob o n).map .agg
 | some false =>
  match cellsAt ob o 1 with
  | some [v] => some v
  | _ => none
 | none => none
def storeCellsA (g : Gd) (h : AHeap) (id o : Nat) (new : List AVal) : Option AHeap :=
 match h.get id with
 | some (.cells gr 2 cs) => if g.may id = true ∧ o + new.length ≤ cs.length ∧ new.all AVal.one = true then some (h.set id (.cells gr 2 (splice cs o new))) else none
 | _ => none
def storeA (g : Gd) (h : AHeap) (t : TypeId) (id o : Nat) (v : AVal) : Option AHeap :=
 match v.cells?, szOf P t with
 | some new, some n => if new.length = n then storeCellsA g h id o new else none
 | _, _ => none
abbrev New := (Nat → AVal) × AObj
def newVarA (v : AVal) : Option New :=
 match v.cells? with
 | some cs => if cs.all AVal.one = true then some (fun n => .ptr (some (n, 0)), .cells none 2 cs) else none
 | none => none
def zeroA (t : TypeId) : Option AVal :=
 match P.info? t with
 | some i => i.zero.map ofV
 | none => none
def fillA (place : Nat → Option (Nat × Nat)) (cells : List AVal) : List (Nat × AVal) → Option (List AVal)
 | [] => some cells
 | (i, v) :: rest =>
  match place i, v.cells? with
  | some (off, size), some new => if new.length = size ∧ off + size ≤ cells.length then fillA place (splice cells off new) rest else none
  | _, _ => none
def placesA (fs : List Field) : Option (List (Nat × Nat)) := fs.mapM fun f => (P.info? f.type).map fun i => (f.offset, i.size)
def buildA (t : TypeId) (parts : List (Nat × AVal)) : Option AVal :=
 match P.underlying t, (zeroA P t).bind AVal.cells? with
 | some (.array _ e), some z => (szOf P e).bind fun n => (fillA (fun i => some (i * n, n)) z parts).map .agg
 | some (.struct fs), some z => (placesA P fs.toList).bind fun ps => (fillA (ps[·]?) z parts).map .agg
 | _, _ => none
def repeatA (z : List AVal) : Nat → List AVal
 | 0 => []
 | n + 1 => z ++ repeatA z n
def buildSliceA (t : TypeId) (len : Nat) (parts : List (Nat × AVal)) : Option New :=
 match P.underlying t with
 | some (.slice e) =>
  match szOf P e, (zeroA P e).bind AVal.cells? with
  | some n, some z =>
   if len * n ≤ 16777216 ∧ z.length = n ∧ n ≠ 0 then
    match fillA (fun i => some (i * n, n)) (repeatA z len) parts with
    | some cs => if cs.all AVal.one = true then some (fun n => .slice (some (n, 0)) len, .cells (some e) 2 cs) else none
    | none => none
   else none
  | _, _ => none
 | _ => none
def intBin (op : BinOp) (k : IntKind) (a b : Int) : Option AVal :=
 match op with
 | .add => some (.int k (k.wrap (a + b)))
 | .sub => some (.int k (k.wrap (a - b)))
 | .mul => some (.int k (k.wrap (a * b)))
 | .quo => if b = 0 then none else some (.int k (k.wrap (a.tdiv b)))
 | .rem => if b = 0 then none else some (.int k (a.tmod b))
 | .and => some (.int k (k.wrap (BitVec.ofInt k.bits a &&& BitVec.ofInt k.bits b).toNat))
 | .or => some (.int k (k.wrap (BitVec.ofInt k.bits a ||| BitVec.ofInt k.bits b).toNat))
 | .xor => some (.int k (k.wrap (BitVec.ofInt k.bits a ^^^ BitVec.ofInt k.bits b).toNat))
 | .andNot => some (.int k (k.wrap (BitVec.ofInt k.bits a &&& ~~~BitVec.ofInt k.bits b).toNat))
 | .eql => some (.bool (a == b))
 | .neq => some (.bool (a != b))
 | .lss => some (.bool (decide (a < b)))
 | .leq => some (.bool (decide (a ≤ b)))
 | .gtr => some (.bool (decide (a > b)))
 | .geq => some (.bool (decide (a ≥ b)))
 | _ => none
def shiftA (op : BinOp) (k : IntKind) (a b : Int) : Option AVal :=
 if b < 0 then none else
 match op with
 | .shl => some (.int k (k.wrap (a * 2 ^ (min b.toNat k.bits))))
 | .shr => some (.int k (a.fdiv (2 ^ (min b.toNat k.bits))))
 | _ => none
def strBin (op : BinOp) (a b : List UInt8) : Option AVal :=
 match op with
 | .add => if a.length + b.length ≤ 9223372036854775807 then some (.str (a ++ b)) else none
 | .eql => some (.bool (a == b))
 | .neq => some (.bool !(a == b))
 | .lss => some (.bool (Op.bytesLess a b))
 | .leq => some (.bool (Op.bytesLess a b || a == b))
 | .gtr => some (.bool !(Op.bytesLess a b || a == b))
 | .geq => some (.bool !(Op.bytesLess a b))
 | _ => none
def partA (t : TypeId) (cs : List AVal) (off : Nat) : Option AVal :=
 match isAggT P t with
 | some true => (szOf P t).bind fun n => if off + n ≤ cs.length then some (.agg ((cs.drop off).take n)) else none
 | some false => cs[off]?
 | none => none
def eqFields (eq : TypeId → AVal → AVal → Option Bool) (xs ys : List AVal) : List Field → Option Bool
 | [] => some true
 | f :: fs =>
  if f.name = "_" then eqFields eq xs ys fs else
  match partA P f.type xs f.offset, partA P f.type ys f.offset with
  | some a, some b =>
   match eq f.type a b with
   | some true => eqFields eq xs ys fs
   | some false => some false
   | none => none
  | _, _ => none
def eqElems (eq : TypeId → AVal → AVal → Option Bool) (e : TypeId) (z : Nat) (xs ys : List AVal) : Nat → Nat → Option Bool
 | 0, _ => some true
 | n + 1, i =>
  match partA P e xs (i * z), partA P e ys (i * z) with
  | some a, some b =>
   match eq e a b with
   | some true => eqElems eq e z xs ys n (i + 1)
   | some false => some false
   | none => none
  | _, _ => none
def eqA : Nat → TypeId → AVal → AVal → Option Bool
 | 0, _, _, _ => none
 | d + 1, t, x, y =>
  match P.underlying t, x, y with
  | some .bool, .bool a, .bool b => some (a == b)
  | some (.int _), .int k a, .int k' b => if k = k' then some (a == b) else none
  | some .string, .str a, .str b => some (a == b)
  | some (.pointer _), .ptr none, .ptr b => some b.isNone
  | some (.pointer _), .ptr (some _), .ptr none => some false
  | some (.pointer _), .vptr _, .ptr none => some false
  | some (.map _ _), .map none, .map b => some b.isNone
  | some (.map _ _), .map (some _), .map none => some false
  | some (.func _ _ _), .nilFunc, .nilFunc => some true
  | some (.func _ _ _), .nilFunc, .func _ _ _ => some false
  | some (.func _ _ _), .func _ _ _, .nilFunc => some false
  | some (.struct fs), .agg xs, .agg ys => if P.stoodInHeld t = true then none else eqFields P (eqA d) xs ys fs.toList
  | some (.array n e), .agg xs, .agg ys => (szOf P e).bind fun z => eqElems P (eqA d) e z xs ys n 0
  | _, _, _ => none
def eqable : AVal → Bool
 | .bool _ | .ptr _ | .slice _ _ | .map _ | .nilFunc | .func _ _ _ | .vsl _ _ | .vptr _ => true
 | _ => false
def binA (op : BinOp) (t : TypeId) (x y : AVal) : Option AVal :=
 match x, y with
 | .int k a, .int k' b =>
  match op with
  | .shl | .shr => shiftA op k a b
  | _ => if k = k' then intBin op k a b else none
 | .str a, .str b => strBin op a b
 | .agg xs, .agg ys =>
  if P.eqGuardType P.depth t = true then none else
  match op with
  | .eql => (eqA P 10000 t (.agg xs) (.agg ys)).map .bool
  | .neq => (eqA P 10000 t (.agg xs) (.agg ys)).map fun b => .bool !b
  | _ => none
 | x, y =>
  if eqable x = true then
   match op with
   | .eql => (eqA P 10000 t x y).map .bool
   | .neq => (eqA P 10000 t x y).map fun b => .bool !b
   | _ => none
  else none
def isC : Operand → Bool
 | .const _ => true
 | _ => false
def nilV (op : BinOp) (t : TypeId) (c : Bool) : Option AVal :=
 match P.underlying t with
 | some (.interface _) => bif c then (match op with | .eql => some (.bool true) | .neq => some (.bool false) | _ => none) else none
 | _ => none
def binN (op : BinOp) (t : TypeId) (c : Bool) (x y : AVal) : Option AVal :=
 match x, y with
 | .nilIface, .nilIface => nilV P op t c
 | x, y => binA P op t x y
def unA (op : UnOp) (x : AVal) : Option AVal :=
 match op, x with
 | .neg, .int k n => intBin .sub k 0 n
 | .xor, .int k n => intBin .xor k (if k.signed then -1 else k.max) n
 | .not, .bool b => some (.bool !b)
 | _, _ => none
def bytesOf : List AVal → Option (List UInt8)
 | [] => some []
 | .int .u8 n :: r => (bytesOf r).map (UInt8.ofNat n.toNat :: ·)
 | _ => none
def convP (src dst : TypeId) (x : AVal) : Option AVal :=
 match P.underlying src, P.underlying dst, x with
 | some _, some (.int k), .int _ n => some (.int k (k.wrap n))
 | some _, some .string, .str s => some (.str s)
 | some _, some .string, .int _ n => some (.str (Utf8.encode n).data.toList)
 | _, _, _ => none
def convN (src dst : TypeId) (x : AVal) : Option New :=
 match P.underlying src, P.underlying dst, x with
 | some _, some (.slice e), .str s =>
  match P.underlying e, szOf P e with
  | some (.int .u8), some 1 => if s.length ≤ 1099511627776 then some (fun n => .slice (some (n, 0)) s.length, .cells (some e) 2 (s.map fun b => .int .u8 b.toNat)) else none
  | _, _ => none
 | _, _, _ => none
def convR (ob : Option AObj) (src dst : TypeId) (x : AVal) : Option AVal :=
 match P.underlying src, P.underlying dst, x with
 | some (.slice e), some .string, .slice r n =>
  match P.underlying e with
  | some (.int .u8) =>
   match r with
   | none => some (.str [])
   | some (_, o) => if n = 0 then some (.str []) else (cellsAt ob o n).bind fun cs => (bytesOf cs).map .str
  | _ => none
 | some (.slice e), some .string, .vsl n cs =>
  match P.underlying e with
  | some (.int .u8) => if cs.length = n then (bytesOf cs).map .str else none
  | _ => none
 | _, _, _ => none
def can1 : AVal → AVal
 | .slice none 0 => .vsl 0 []
 | v => v
def makeSliceA (t : TypeId) (l c : AVal) : Option New :=
 match P.underlying t, l, c with
 | some (.slice e), .int _ l, .int _ c =>
  match P.info? e with
  | some i =>
   match i.zero.map ofV with
   | some z =>
    match z.cells?.map (·.map can1) with
    | some zc =>
     if 0 ≤ l ∧ l ≤ c ∧ c ≤ 1099511627776 ∧ i.bytes * c ≤ 1099511627776 ∧ zc.length = i.size ∧ zc.all AVal.one = true then
      some (fun n => .slice (some (n, 0)) l.toNat, .cells (some e) 2 (repeatA zc c.toNat))
     else none
    | none => none
   | none => none
  | none => none
 | _, _, _ => none
def boundsA (n : Nat) (lo hi : Option AVal) : Option (Nat × Nat) :=
 match hi with
 | some (.int _ u) =>
  if 0 ≤ u ∧ u ≤ n then
   match lo with
   | some (.int _ l) => if 0 ≤ l ∧ l ≤ u then some (l.toNat, u.toNat) else none
   | some _ => none
   | none => some (0, u.toNat)
  else none
 | some _ => none
 | none =>
  match lo with
  | some (.int _ l) => if 0 ≤ l ∧ l ≤ n then some (l.toNat, n) else none
  | some _ => none
  | none => some (0, n)
def sliceP (t : TypeId) (x : AVal) (lo hi : Option AVal) : Option AVal :=
 match P.underlying t, x with
 | some .string, .str s => (boundsA s.length lo hi).map fun (l, u) => .str ((s.drop l).take (u - l))
 | _, _ => none
def sliceR (ob : Option AObj) (t : TypeId) (x : AVal) (lo hi : Option AVal) : Option AVal :=
 match P.underlying t, x with
 | some (.array n e), .ptr (some (id, o)) =>
  match ob with
  | some (.cells none _ _) => (szOf P e).bind fun z => (boundsA n lo hi).map fun (l, u) => .slice (some (id, o + l * z)) (u - l)
  | _ => none
 | some (.slice e), .slice none 0 => (szOf P e).bind fun _ => (boundsA 0 lo hi).map fun _ => .slice none 0
 | some (.slice e), .vsl n cs => (szOf P e).bind fun z => if cs.length = n * z then (boundsA n lo hi).map fun (l, u) => .vsl (u - l) ((cs.drop (l * z)).take ((u - l) * z)) else none
 | some (.slice e), .slice (some (id, o)) n =>
  match ob, szOf P e with
  | some (.cells none _ _), some z => (boundsA n lo hi).map fun (l, u) => .slice (some (id, o + l * z)) (u - l)
  | some (.cells (some e') _ _), some z => if szOf P e' = some z then (boundsA n lo hi).map fun (l, u) => .slice (some (id, o + l * z)) (u - l) else none
  | _, _ => none
 | _, _ => none
def fieldAddrA (s : TypeId) (x : AVal) (f : Nat) : Option AVal :=
 match P.underlying s, x with
 | some (.struct fs), .ptr (some (id, o)) =>
  match fs[f]? with
  | some fd =>
   match szOf P fd.type with
   | some 0 => none
   | some _ => some (.ptr (some (id, o + fd.offset)))
   | none => none
  | none => none
 | some (.struct fs), .gptr g o =>
  match fs[f]? with
  | some fd =>
   match szOf P fd.type with
   | some 0 => none
   | some _ => some (.gptr g (o + fd.offset))
   | none => none
  | none => none
 | some (.struct fs), .vptr cs =>
  match fs[f]? with
  | some fd =>
   match szOf P fd.type with
   | some 0 => none
   | some _ => some (.vptr (cs.drop fd.offset))
   | none => none
  | none => none
 | _, _ => none
def fieldA (s : TypeId) (x : AVal) (f : Nat) : Option AVal :=
 match P.underlying s, x with
 | some (.struct fs), .agg cs =>
  match fs[f]? with
  | some fd => partA P fd.type cs fd.offset
  | none => none
 | _, _ => none
def indexAddrA (t : TypeId) (x i : AVal) : Option AVal :=
 match P.underlying t, x, i with
 | some (.array n e), .ptr (some (id, o)), .int _ i => if 0 ≤ i ∧ i < n then (szOf P e).map fun z => .ptr (some (id, o + i.toNat * z)) else none
 | some (.slice e), .slice (some (id, o)) n, .int _ i => if 0 ≤ i ∧ i < n then (szOf P e).map fun z => .ptr (some (id, o + i.toNat * z)) else none
 | some (.array n e), .gptr g o, .int _ i => if 0 ≤ i ∧ i < n then (szOf P e).map fun z => .gptr g (o + i.toNat * z) else none
 | some (.array n e), .vptr cs, .int _ i => if 0 ≤ i ∧ i < n then (szOf P e).map fun z => .vptr (cs.drop (i.toNat * z)) else none
 | some (.slice e), .vsl n cs, .int _ i => if 0 ≤ i ∧ i < n then (szOf P e).bind fun z => if cs.length = n * z ∧ z ≠ 0 then some (.vptr ((cs.drop (i.toNat * z)).take z)) else none else none
 | _, _, _ => none
def indexA (t : TypeId) (x i : AVal) : Option AVal :=
 match P.underlying t, x, i with
 | some (.array n e), .agg cs, .int _ i => if 0 ≤ i ∧ i < n then (szOf P e).bind fun z => partA P e cs (i.toNat * z) else none
 | some .string, .str s, .int _ i => if 0 ≤ i then (s[i.toNat]?).map fun b => .int .u8 b.toNat else none
 | _, _, _ => none
def firstA (h : AHeap) (z n : Nat) : AVal → Option (List AVal)
 | .slice (some (id, o)) _ => if n = 0 then some [] else cellsAt (h.get id) o (n * z)
 | .slice none _ => if n = 0 then some [] else none
 | .str s => if z = 1 then some ((s.take n).map fun b => .int .u8 b.toNat) else none
 | .vsl n' cs => if n ≤ n' ∧ cs.length = n' * z then some (cs.take (n * z)) else none
 | _ => none
def lenA : AVal → Option Nat
 | .slice _ n => some n
 | .vsl n _ => some n
 | .str s => some s.length
 | _ => none
def notInt : TypeDesc → Bool
 | .int _ => false
 | _ => true
def appendCore (g : Gd) (h : AHeap) (e : TypeId) (i : TypeInfo) (r : Option (Nat × Nat)) (sl n : Nat) (x : AVal) : Option (AVal × AHeap) :=
 if n = 0 then some (.slice r sl, h)
 else if i.size ≠ 0 ∧ sl + n ≤ 1099511627776 ∧ (sl + n) * i.bytes ≤ 1099511627776 ∧ i.zero.map (·.cells.size) = some i.size then
  match (firstA h i.size n x).map (·.map can1), firstA h i.size sl (.slice r sl) with
  | some new, some old =>
   if (old ++ new).all AVal.one = true then
    match r with
    | none => some (.slice (some (h.size, 0)) (sl + n), h.push (.cells (some e) 2 (old ++ new)))
    | some (id, _) =>
     match h.get id with
     | some (.cells (some e') 2 _) =>
      if g.may id = true ∧ e' = e then some (.slice (some (h.size, 0)) (sl + n), (h.set id (.cells (some e') 0 [])).push (.cells (some e) 2 (old ++ new)))
      else none
     | _ => none
   else none
  | _, _ => none
 else none
def appendA (g : Gd) (h : AHeap) (ts : Array TypeId) (s x : AVal) : Option (AVal × AHeap) :=
 match ts[0]?, ts[1]?, s, lenA x with
 | some st, some xt, .slice r sl, some n =>
  match P.underlying st, P.underlying xt with
  | some (.slice e), some d =>
   match P.info? e with
   | some i => if notInt d = true then appendCore g h e i r sl n x else none
   | none => none
  | _, _ => none
 | _, _, _, _ => none
def copyA (g : Gd) (h : AHeap) (ts : Array TypeId) (d x : AVal) : Option (AVal × AHeap) :=
 match ts[0]?, d, lenA x with
 | some dt, .slice r dl, some sl =>
  match P.underlying dt with
  | some (.slice e) =>
   match szOf P e with
   | some z =>
    match firstA h z (min sl dl) x, r with
    | some new, some (id, o) => if min sl dl = 0 then some (.int .i64 0, h) else (storeCellsA g h id o new).map fun h' => (.int .i64 (min sl dl : Nat), h')
    | some _, none => if min sl dl = 0 then some (.int .i64 0, h) else none
    | none, _ => none
   | none => none
  | _ => none
 | _, _, _ => none
def lenP (ts : Array TypeId) (x : AVal) : Option AVal :=
 match ts[0]? with
 | none => none
 | some t =>
  match P.underlying t, x with
  | some .string, .str s => some (.int .i64 s.length)
  | some (.array n _), _ => some (.int .i64 n)
  | some (.slice _), .slice _ n => some (.int .i64 n)
  | some (.slice _), .vsl n _ => some (.int .i64 n)
  | _, _ => none
def lenR (ob : Option AObj) (ts : Array TypeId) (x : AVal) : Option AVal :=
 match ts[0]? with
 | none => none
 | some t =>
  match P.underlying t, x with
  | some (.map _ _), .map none => some (.int .i64 0)
  | some (.map _ _), .map (some _) =>
   match ob with
   | some (.map st es) => if st ≠ 0 then some (.int .i64 es.length) else none
   | _ => none
  | some (.chan _ _), .chan (some _) =>
   match ob with
   | some (.chan _ buf) => some (.int .i64 buf.length)
   | _ => none
  | _, _ => none
def minMaxA (mx : Bool) : AVal → List AVal → Option AVal
 | v, [] => some v
 | .int k a, .int k' b :: r => if k = k' then minMaxA mx (.int k (if mx then (if b > a then b else a) else (if b < a then b else a))) r else none
 | _, _ => none
def findA (t : TypeId) (k : AVal) : List (AVal × AVal) → Nat → Option (Option (Nat × AVal))
 | [], _ => some none
 | (k', v) :: es, i =>
  match eqA P 10000 t k k' with
  | some true => some (some (i, v))
  | some false => findA t k es (i + 1)
  | none => none
def keyOkA : Nat → TypeId → AVal → Bool
 | 0, _, _ => false
 | d + 1, t, v =>
  match P.underlying t, v with
  | some (.int _), .int _ _ => true
  | some .string, .str _ => true
  | some .bool, .bool _ => true
  | some (.struct fs), .agg cs => fs.toList.all (fun f => f.name != "_" && (match partA P f.type cs f.offset with | some x => keyOkA d f.type x | none => false))
  | some (.array n e), .agg cs => (match szOf P e with | some z => (List.range n).all (fun i => match partA P e cs (i * z) with | some x => keyOkA d e x | none => false) | none => false)
  | _, _ => false
def lookupR (ob : Option AObj) (t : TypeId) (x k : AVal) (ok : Bool) : Option AVal :=
 match P.underlying t, x with
 | some (.map kt et), .map r =>
  if keyOkA P 20 kt k = true then
   match (match r with | none => some [] | some _ => match ob with | some (.map st es) => if st ≠ 0 then some es else none | _ => none) with
   | some es =>
    match findA P kt k es 0 with
    | some (some (_, v)) => some (if ok then .tuple [v, .bool true] else v)
    | some none => (zeroA P et).map fun z => if ok then .tuple [z, .bool false] else z
    | none => none
   | none => none
  else none
 | _, _ => none
def same1 : AVal → AVal → Bool
 | .int k a, .int k' b => decide (k = k') && a == b
 | .str a, .str b => a == b
 | .bool a, .bool b => a == b
 | _, _ => false
def sameA : AVal → AVal → Bool
 | .agg a, .agg b => a.length == b.length && (a.zip b).all fun p => same1 p.1 p.2
 | x, y => same1 x y
def frz1 (g : Gd) (h : AHeap) : AVal → Option (AVal × AHeap)
 | .slice none 0 => some (.vsl 0 [], h)
 | .slice (some (id, 0)) n =>
  bif Nat.beq n 0 then some (.vsl 0 [], h) else
  match h.get id with
  | some (.cells gr 2 cs) => bif g.may id then some (.vsl n cs, h.set id (.cells gr 0 cs)) else none
  | some (.cells _ 0 (c :: cs)) => some (.vsl n (c :: cs), h)
  | _ => none
 | v => some (v, h)
def mapSetA (g : Gd) (h : AHeap) (t : TypeId) (m k v : AVal) : Option AHeap :=
 match P.underlying t, m with
 | some (.map kt _), .map (some id) =>
  if keyOkA P 20 kt k = true ∧ g.may id = true then
   match h.get id with
   | some (.map 2 es) =>
    match findA P kt k es 0 with
    | some (some (i, _)) =>
     match es[i]? with
     | some (k', _) => if sameA k' k = true then some (h.set id (.map 2 (es.set i (k, v)))) else none
     | none => none
    | some none => some (h.set id (.map 2 (es ++ [(k, v)])))
    | none => none
   | _ => none
  else none
 | _, _ => none
def mapSetZ (g : Gd) (h : AHeap) (t : TypeId) (m k v : AVal) : Option AHeap := (frz1 g h v).bind fun r => mapSetA P g r.2 t m k r.1
def deleteA (g : Gd) (h : AHeap) (ts : Array TypeId) (m k : AVal) : Option AHeap :=
 match ts[0]? with
 | none => none
 | some t =>
  match P.underlying t, m with
  | some (.map kt _), .map (some id) =>
   if keyOkA P 20 kt k = true ∧ g.may id = true then
    match h.get id with
    | some (.map 2 es) =>
     match findA P kt k es 0 with
     | some (some (i, _)) => some (h.set id (.map 2 (es.eraseIdx i)))
     | some none => some h
     | none => none
    | _ => none
   else none
  | _, _ => none
def clsOf : Op → Nat
 | .move _ | .assign _ | .pick .. | .build .. | .nilCheck _ | .binOp .. | .unOp .. | .makeFunc .. | .fieldAddr .. | .field .. | .indexAddr .. | .index .. | .extract .. => 0
 | .slice t .. => match P.underlying t with | some .string => 0 | _ => 1
 | .convert s d _ =>
  match P.underlying s, P.underlying d with
  | some (.slice _), some .string => 1
  | some (.slice _), some (.slice _) => 3
  | _, some (.slice _) => 2
  | _, _ => 0
 | .load .. | .lookup .. => 1
 | .alloc _ | .box .. | .buildSlice .. | .makeMap .. | .makeSlice .. | .range .. | .makeChan .. => 2
 | .call { callee := .builtin .len, argTypes := ts, .. } =>
  match ts[0]? with
  | some t => match P.underlying t with | some (.map _ _) => 1 | some (.chan _ _) => 1 | _ => 0
  | none => 0
 | .call { callee := .builtin .min, .. } | .call { callee := .builtin .max, .. } => 0
 | _ => 3
def opP (fr : Fr) : Op → Option AVal
 | .move x | .assign x => some (ev fr x)
 | .pick c a b =>
  match ev fr c with
  | .bool b' => some (bif b' then ev fr a else ev fr b)
  | _ => none
 | .build t parts => buildA P t (parts.toList.map fun (i, x) => (i, ev fr x))
 | .nilCheck x =>
  match ev fr x with
  | .ptr (some r) => some (.ptr (some r))
  | .gptr g o => some (.gptr g o)
  | .vptr cs => some (.vptr cs)
  | .func (.func f) a b => some (.func (.func f) a b)
  | _ => none
 | .binOp op t x y _ => binN P op t (isC x || isC y) (ev fr x) (ev fr y)
 | .unOp op _ x => unA op (ev fr x)
 | .convert s d x => convP P s d (ev fr x)
 | .makeFunc fn first cap => some (.func fn (first.toList.map (ev fr)) (cap.toList.map (ev fr)))
 | .slice t x lo hi none => sliceP P t (ev fr x) (lo.map (ev fr)) (hi.map (ev fr))
 | .fieldAddr s x f => fieldAddrA P s (ev fr x) f
 | .field s x f => fieldA P s (ev fr x) f
 | .indexAddr t x i => indexAddrA P t (ev fr x) (ev fr i)
 | .index t x i => indexA P t (ev fr x) (ev fr i)
 | .extract x i =>
  match ev fr x with
  | .tuple vs => vs[i]?
  | _ => none
 | .call { callee := .builtin b, args := as, argTypes := ts } =>
  match b, as.toList.map (ev fr) with
  | .len, [x] => lenP P ts x
  | .min, x :: r => minMaxA false x r
  | .max, x :: r => minMaxA true x r
  | _, _ => none
 | _ => none
def refOf : AVal → Option Nat
 | .ptr (some (id, _)) => some id
 | .slice (some (id, _)) _ => some id
 | .map (some id) => some id
 | .chan (some id) => some id
 | _ => none
def touchA (fr : Fr) : Op → Option Nat
 | .load _ x => refOf (ev fr x)
 | .slice _ x _ _ _ => refOf (ev fr x)
 | .convert _ _ x => refOf (ev fr x)
 | .lookup _ x _ _ => refOf (ev fr x)
 | .call { args := as, .. } =>
  match as.toList with
  | [x] => refOf (ev fr x)
  | _ => none
 | _ => none
def opR (G : Nat → Option (List AVal)) (fr : Fr) (ob : Option AObj) : Op → Option AVal
 | .load t a =>
  match ev fr a with
  | .ptr (some (_, o)) => loadA P ob t o
  | .gptr g o => loadA P ((G g).map fun cs => .cells none 1 cs) t o
  | .vptr cs => loadA P (some (.cells none 1 cs)) t 0
  | _ => none
 | .slice t x lo hi none => sliceR P ob t (ev fr x) (lo.map (ev fr)) (hi.map (ev fr))
 | .convert s d x => convR P ob s d (ev fr x)
 | .lookup t x k ok => lookupR P ob t (ev fr x) (ev fr k) ok
 | .call { callee := .builtin .len, args := as, argTypes := ts } =>
  match as.toList with
  | [x] => lenR P ob ts (ev fr x)
  | _ => none
 | _ => none
def opN (fr : Fr) : Op → Option New
 | .alloc e => (zeroA P e).bind newVarA
 | .box _ x => newVarA (ev fr x)
 | .buildSlice t len parts => buildSliceA P t len (parts.toList.map fun (i, x) => (i, ev fr x))
 | .convert s d x => convN P s d (ev fr x)
 | .makeMap _ none => some (fun n => .map (some n), .map 2 [])
 | .makeSlice t l c => makeSliceA P t (ev fr l) (ev fr c)
 | .makeChan t n =>
  match P.underlying t, ev fr n with
  | some (.chan _ e), .int _ n =>
   match P.info? e with
   | some i => if 0 ≤ n ∧ n ≤ 1099511627776 ∧ i.bytes * n ≤ 1099511627776 then some (fun k => .chan (some k), .chan n.toNat []) else none
   | none => none
  | _, _ => none
 | .range t x =>
  match P.underlying t, ev fr x with
  | some .string, .str s => some (fun n => .ptr (some (n, 0)), .iter s 0)
  | _, _ => none
 | _ => none
def convW (g : Gd) (h : AHeap) (s d : TypeId) (x : AVal) : Option (AVal × AHeap) :=
 match P.underlying s, P.underlying d, x with
 | some (.slice _), some (.slice e), .slice (some (id, o)) n =>
  match P.underlying e, h.get id with
  | some (.int .u8), some (.cells gr 2 cs) => bif Nat.beq s d && (g.may id && !(Nat.beq n 0)) then some (.slice (some (id, o)) n, h.set id (.cells gr 2 cs)) else none
  | _, _ => none
 | _, _, _ => none
def opW (g : Gd) (h : AHeap) (fr : Fr) : Op → Option (AVal × AHeap)
 | .convert s d x => convW P g h s d (ev fr x)
 | .store t a x =>
  match ev fr a with
  | .ptr (some (id, o)) => (storeA P g h t id o (ev fr x)).map (.tuple [], ·)
  | _ => none
 | .mapUpdate t m k v | .insert t m k v => (mapSetZ P g h t (ev fr m) (ev fr k) (ev fr v)).map (.tuple [], ·)
 | .next it true =>
  match ev fr it with
  | .ptr (some (id, 0)) =>
   match h.get id with
   | some (.iter s pos) =>
    if g.may id = true then
     if pos < s.length then
      some (.tuple [.bool true, .int .i64 pos, .int .i32 (Utf8.decode ⟨⟨s⟩⟩ pos).1], h.set id (.iter s (pos + (Utf8.decode ⟨⟨s⟩⟩ pos).2)))
     else some (.tuple [.bool false], h)
    else none
   | _ => none
  | _ => none
 | .call { callee := .builtin b, args := as, argTypes := ts } =>
  match b, as.toList.map (ev fr) with
  | .append, [s, x] => appendA P g h ts s x
  | .copy, [d, x] => copyA P g h ts d x
  | .delete, [m, k] => (deleteA P g h ts m k).map (.tuple [], ·)
  | _, _ => none
 | _ => none
def opA (G : Nat → Option (List AVal)) (g : Gd) (h : AHeap) (fr : Fr) (op : Op) : Option (AVal × AHeap) :=
 match clsOf P op with
 | 0 => (opP P fr op).map (·, h)
 | 1 =>
  match touchA fr op with
  | none => (opR P G fr none op).map (·, h)
  | some id =>
   match h.get id with
   | some ob => (opR P G fr (some ob) op).map (·, h)
   | none => none
 | 2 => (opN P fr op).map fun x => (x.1 h.size, h.push x.2)
 | _ => opW P g h fr op
end
structure Cfg where
 P : Program
 kind : Nat → Nat
 plan : Nat → Nat → List (Nat × List Nat)
 ext : Nat → Gd → AHeap → List AVal → Option (AVal × AHeap)
 glob : Nat → Option (List AVal) := fun _ => none
 rok : FuncId → Code → Code → Bool := fun _ _ _ => false
 still : FuncId → List Bool := fun _ => []
inductive AExit where
 | normal
 | exit (id : Nat)
 | ret
structure Self where
 call : Gd → AHeap → FuncId → List AVal → Option (AVal × AHeap)
 loop : Gd → FuncId → Code → Fr → AHeap → Option (AExit × Fr × AHeap)
 round : Gd → AHeap → Nat → List AVal → Option (AVal × AHeap)
section
variable (C : Cfg) (S : Self)
def stepA (g : Gd) (h : AHeap) (fr : Fr) (op : Op) : Option (AVal × AHeap) :=
 match op with
 | .call { callee := .value x, args := as, .. } =>
  match ev fr x with
  | .func (.func f) first cap => S.call g h f (first ++ (as.toList.map (ev fr) ++ cap))
  | .yfn l => S.round g h l (as.toList.map (ev fr))
  | _ => none
 | op => opA C.P C.glob g h fr op
def wantedA (ops : Array Oper) (fr : Fr) (o : Oper) : Option Bool :=
 match o.guard with
 | none => some true
 | some (j, want) =>
  match (ops[j]?).bind (·.dst) with
  | none => some false
  | some d =>
   match nth fr d with
   | .bool b => some (b == want)
   | .undef => none
   | _ => some false
def runOps (g : Gd) (ops : Array Oper) : List Oper → Fr → AHeap → Option (Fr × AHeap)
 | [], fr, h => some (fr, h)
 | o :: rest, fr, h =>
  match wantedA ops fr o with
  | some true =>
   match stepA C S g h fr o.op with
   | some (v, h') => runOps g ops rest (put fr o.dst v) h'
   | none => none
  | some false => runOps g ops rest (put fr o.dst (.tuple [])) h
  | none => none
def protOf (tch : List (Nat × Nat)) (U : List Nat) : List Nat := tch.filterMap fun (i, id) => bif U.any (Nat.beq i) then some id else none
def touches (P : Program) (h : AHeap) (fr : Fr) (i : Nat) (op : Op) (tch : List (Nat × Nat)) : List (Nat × Nat) :=
 match clsOf P op with
 | 1 => match touchA fr op with | some id => (i, id) :: tch | none => tch
 | 2 => (i, h.size) :: tch
 | _ => tch
def sameV : AVal → AVal → Bool
 | .ptr (some (a, b)), .ptr (some (c, d)) => Nat.beq a c && Nat.beq b d
 | .int k a, .int k' b => decide (k = k') && decide (a = b)
 | .bool a, .bool b => a == b
 | .str a, .str b => decide (a = b)
 | .vsl 0 [], .vsl 0 [] => true
 | _, _ => false
def reOk1 (ops : Array Oper) (fr : Fr) (h : AHeap) (i : Nat) : Bool :=
 match ops[i]? with
 | some o =>
  match wantedA ops fr o with
  | some false => true
  | some true =>
   match o.dst, touchA fr o.op with
   | some d, some id =>
    Nat.blt d fr.length && (match h.get id with
     | some ob => (match opR C.P C.glob fr (some ob) o.op with | some v => sameV v (nth fr d) | none => false)
     | none => false)
   | _, _ => false
  | none => false
 | none => false
def reOk (ops : Array Oper) (U : List Nat) (fr : Fr) (h : AHeap) : Bool := U.all fun u => Nat.blt u 10000 || reOk1 C ops fr h (u - 10000)
def runPlan (g : Gd) (ops : Array Oper) : List (Nat × List Nat) → List (Nat × Nat) → Fr → AHeap → Option (Fr × AHeap)
 | [], _, fr, h => some (fr, h)
 | (i, U) :: rest, tch, fr, h =>
  match ops[i]? with
  | none => none
  | some o =>
   match wantedA ops fr o with
   | some true =>
    match stepA C S ⟨g.floor, protOf tch U ++ g.prot⟩ h fr o.op with
    | some (v, h') => bif reOk C ops U (put fr o.dst v) h' then runPlan g ops rest (touches C.P h fr i o.op tch) (put fr o.dst v) h' else none
    | none => none
   | some false => runPlan g ops rest tch (put fr o.dst (.tuple [])) h
   | none => none
def bodied (P : Program) (f : FuncId) : Bool :=
 match P.funcs[f]? with
 | some fn => fn.body.isSome && !(fn.name == "runtime.NumGoroutine")
 | none => false
def execA (f : FuncId) (g : Gd) : Code → Fr → AHeap → Option (AExit × Fr × AHeap)
 | .skip, fr, h => some (.normal, fr, h)
 | .label _, fr, h => some (.normal, fr, h)
 | .region id ops draw, fr, h =>
  match (bif draw then runPlan C S g ops (C.plan f id) [] fr h else runOps C S g ops ops.toList fr h) with
  | some (fr', h') => some (.normal, fr', h')
  | none => none
 | .seq a b, fr, h =>
  match execA f g a fr h with
  | some (.normal, fr', h') => execA f g b fr' h'
  | r => r
 | .cond c a b, fr, h =>
  match ev fr c with
  | .bool true => execA f g a fr h
  | .bool false => execA f g b fr h
  | _ => none
 | .block id c, fr, h =>
  match execA f g c fr h with
  | some (.exit i, fr', h') => bif Nat.beq i id then some (.normal, fr', h') else some (.exit i, fr', h')
  | r => r
 | .loop c, fr, h =>
  match execA f g c fr h with
  | some (.normal, fr', h') => S.loop g f c fr' h'
  | r => r
 | .scope c, fr, h => execA f g c fr h
 | .exit id, fr, h => some (.exit id, fr, h)
 | .ret, fr, h => some (.ret, fr, h)
 | .rangeFunc x ps a b, fr, h =>
  match ev fr x with
  | .func (.func f') first cap =>
   bif !bodied C.P f' then none else
   match S.call g (h.push (.loop 0 none f fr ps.toList a b)) f' (first ++ ([.yfn h.size] ++ cap)) with
   | some (_, h2) =>
    match h2.get h.size with
    | some (.loop st pend f2 fr2 ps2 a2 b2) =>
     bif Nat.beq st 1 || !g.may h.size then none else
     match pend with
     | none => some (.normal, fr, h2.set h.size (.loop 3 pend f2 fr2 ps2 a2 b2))
     | some .ret => some (.ret, fr, h2.set h.size (.loop 3 pend f2 fr2 ps2 a2 b2))
     | some (.exit i) => some (.exit i, fr, h2.set h.size (.loop 3 pend f2 fr2 ps2 a2 b2))
     | _ => none
    | _ => none
   | none => none
  | _ => none
 | _, _, _ => none
def fillP : List Tmp → List AVal → Fr → Fr
 | p :: ps, v :: vs, fr => fillP ps vs (fr.set p v)
 | _, _, fr => fr
def stJ : Option Code → Nat
 | none => 0
 | some _ => 2
def endRoundA (g : Gd) (l : Nat) (j : Option Code) (h : AHeap) : Option (AVal × AHeap) :=
 match h.get l with
 | some (.loop _ _ f fr ps a b) => bif g.may l then some (.bool j.isNone, h.set l (.loop (stJ j) j f fr ps a b)) else none
 | _ => none
def roundA (g : Gd) (h : AHeap) (l : Nat) (args : List AVal) : Option (AVal × AHeap) :=
 match h.get l with
 | some (.loop 0 _ f fr ps a b) =>
  bif Nat.beq args.length ps.length && (g.may l && C.rok f a b) then
   match execA C S f g a (fillP ps args fr) h with
   | some (.normal, fr1, h1) =>
    match h1.get l with
    | some (.loop 0 pend f2 fr2 ps2 a2 b2) =>
     match execA C S f g b fr1 (h1.set l (.loop 1 pend f2 fr2 ps2 a2 b2)) with
     | some (.normal, _, h3) => endRoundA g l none h3
     | some (.ret, _, h3) => endRoundA g l (some .ret) h3
     | some (.exit i, _, h3) => endRoundA g l (some (.exit i)) h3
     | none => none
    | _ => none
   | _ => none
  else none
 | _ => none
def selA (P : Program) (g : Gd) (h : AHeap) (fr : Fr) : Op → Option (AVal × AHeap)
 | .select cases blocking =>
  match cases.toList, blocking with
  | [c], false =>
   match zeroA P c.elem with
   | some z =>
    match ev fr c.chan with
    | .chan (some id) =>
     match h.get id with
     | some (.chan cap buf) =>
      match c.send with
      | some x =>
       bif Nat.ble cap buf.length then some (.tuple [.int .i64 (-1), .bool false], h)
       else bif g.may id then some (.tuple [.int .i64 0, .bool false], h.set id (.chan cap (buf ++ [ev fr x])))
       else none
      | none =>
       match buf with
       | v :: rest => bif g.may id then some (.tuple [.int .i64 0, .bool true, v], h.set id (.chan cap rest)) else none
       | [] => some (.tuple [.int .i64 (-1), .bool false, z], h)
     | _ => none
    | _ => none
   | none => none
  | _, _ => none
 | _ => none
def isSel : Code → Bool
 | .region _ ops draw => !draw && (match ops[0]? with | some o => (match o.op with | .select _ _ => o.guard.isNone | _ => false) | none => false)
 | _ => false
def runSel (g : Gd) : Code → Fr → AHeap → Option (AExit × Fr × AHeap)
 | .region _ ops _, fr, h =>
  match ops.toList with
  | o :: rest =>
   match selA C.P g h fr o.op with
   | some (v, h') =>
    match runOps C S g ops rest (put fr o.dst v) h' with
    | some (fr', h') => some (.normal, fr', h')
    | none => none
   | none => none
  | [] => none
 | _, _, _ => none
def execS (f : FuncId) (g : Gd) : Code → Fr → AHeap → Option (AExit × Fr × AHeap)
 | .seq a b, fr, h =>
  match execS f g a fr h with
  | some (.normal, fr', h') => execS f g b fr' h'
  | r => r
 | c, fr, h => bif isSel c then runSel C S g c fr h else execA C S f g c fr h
def result1 (P : Program) (fr : Fr) (h : AHeap) : ResultVar → Option AVal
 | .tmp t => some (nth fr t)
 | .cell a t =>
  match nth fr a with
  | .ptr (some (id, o)) => loadA P (h.get id) t o
  | _ => none
def resultsA (P : Program) (fn : Func) (fr : Fr) (h : AHeap) : Option AVal :=
 match fn.results.toList.mapM (result1 P fr h) with
 | some [v] => some v
 | some vs => some (.tuple vs)
 | none => none
def flat1 : AVal → Bool
 | .bool _ | .int _ _ | .str _ | .ptr none | .slice none _ | .map none | .chan none | .nilFunc | .nilIface => true
 | _ => false
def flat2 : AVal → Bool
 | .agg cs => cs.all flat1
 | v => flat1 v
def flat3 : AVal → Bool
 | .tuple vs => vs.all flat2
 | v => flat2 v
def bodyA (g : Gd) (h : AHeap) (f : FuncId) (args : List AVal) : Option (AVal × AHeap) :=
 match C.P.funcs[f]? with
 | none => none
 | some fn =>
  match fn.body with
  | none => none
  | some c =>
   match execA C S f g c (args ++ List.replicate (fn.ntmps - args.length) (.tuple [])) h with
   | some (.normal, fr, h') => (resultsA C.P fn fr h').map (·, h')
   | some (.ret, fr, h') => (resultsA C.P fn fr h').map (·, h')
   | _ => none
def bodyS (g : Gd) (h : AHeap) (f : FuncId) (args : List AVal) : Option (AVal × AHeap) :=
 match C.P.funcs[f]? with
 | none => none
 | some fn =>
  match fn.body with
  | none => none
  | some c =>
   match execS C S f g c (args ++ List.replicate (fn.ntmps - args.length) (.tuple [])) h with
   | some (.normal, fr, h') => (resultsA C.P fn fr h').map (·, h')
   | some (.ret, fr, h') => (resultsA C.P fn fr h').map (·, h')
   | _ => none
def frzL (f : AHeap → AVal → Option (AVal × AHeap)) : List AVal → AHeap → Option (List AVal × AHeap)
 | [], h => some ([], h)
 | v :: vs, h =>
  match f h v with
  | some (v', h1) => (frzL f vs h1).map fun r => (v' :: r.1, r.2)
  | none => none
def frz2 (g : Gd) (h : AHeap) : AVal → Option (AVal × AHeap)
 | .agg cs => (frzL (frz1 g) cs h).map fun r => (.agg r.1, r.2)
 | v => frz1 g h v
def frz3 (g : Gd) (h : AHeap) : AVal → Option (AVal × AHeap)
 | .tuple vs => (frzL (frz2 g) vs h).map fun r => (.tuple r.1, r.2)
 | v => frz2 g h v
def frzP (g : Gd) (h : AHeap) : AVal → Option (AVal × AHeap)
 | .ptr (some (id, 0)) =>
  match h.get id with
  | some (.cells none 2 cs) => bif g.may id then (frzL (frz1 g) cs (h.set id (.cells none 0 cs))).map fun r => (.vptr r.1, r.2) else none
  | _ => none
 | v => frz2 g h v
def frz4 (g : Gd) (h : AHeap) : AVal → Option (AVal × AHeap)
 | .tuple vs => (frzL (frzP g) vs h).map fun r => (.tuple r.1, r.2)
 | v => frzP g h v
def can2 : AVal → AVal
 | .agg cs => .agg (cs.map can1)
 | v => can1 v
def canL : List Bool → List AVal → List AVal
 | true :: bs, v :: vs => can2 v :: canL bs vs
 | false :: bs, v :: vs => v :: canL bs vs
 | _, vs => vs
def callA (g : Gd) (h : AHeap) (f : FuncId) (args : List AVal) : Option (AVal × AHeap) :=
 match C.kind f with
 | 1 => bodyA C S g h f (canL (C.still f) args)
 | 2 =>
  match bodyA C S ⟨h.size, []⟩ h f args with
  | some (v, _) => bif flat3 v then some (v, h) else none
  | none => none
 | 3 => C.ext f g h args
 | 4 =>
  bif args.all flat2 then
   match bodyA C S ⟨0, []⟩ ⟨0, .leaf⟩ f args with
   | some (v, _) => bif flat3 v then some (v, h) else none
   | none => none
  else none
 | 7 =>
  match bodyA C S g h f (canL (C.still f) args) with
  | some (v, h') => frz3 g h' v
  | none => none
 | 8 => bodyS C S g h f (canL (C.still f) args)
 | 9 =>
  match bodyA C S g h f (canL (C.still f) args) with
  | some (v, h') => frz4 g h' v
  | none => none
 | _ => none
end
def selfN (C : Cfg) : Nat → Self
 | 0 => ⟨fun _ _ _ _ => none, fun _ _ _ _ _ => none, fun _ _ _ _ => none⟩
 | n + 1 => ⟨callA C (selfN C n), fun g f c => execA C (selfN C n) f g (.loop c), roundA C (selfN C n)⟩
def runA (C : Cfg) (n : Nat) (g : Gd) (h : AHeap) (f : FuncId) (args : List AVal) : Option (AVal × AHeap) := (selfN C n).call g h f args
end Go.Av
