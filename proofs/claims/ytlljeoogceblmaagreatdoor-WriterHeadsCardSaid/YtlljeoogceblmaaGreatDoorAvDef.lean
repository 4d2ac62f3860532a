/-
 A part.
-/
import Derived.Calls
namespace Go.Av
inductive AB where
 | undef
 | bool (b : Bool)
 | int (k : IntKind) (n : Int)
 | str (s : List UInt8)
 | ptr (r : Option (Nat × Nat))
 | Ij (g o : Nat)
 | slice (r : Option (Nat × Nat)) (len : Nat)
 | map (r : Option Nat)
 | chan (r : Option Nat)
 | func (fn : Fn) (first captured : List AB)
 | nilFunc
 | iface (t : TypeId) (v : AB)
 | nilIface
 | agg (cs : List AB)
 | tuple (vs : List AB)
 | Iw (n : Nat) (cs : List AB)
 | Am (cs : List AB)
 | Xi (l : Nat)
 deriving Inhabited
inductive Bm where
 | cells (grow : Option TypeId) (st : Nat) (cs : List AB)
 | map (st : Nat) (es : List (AB × AB))
 | iter (s : List UInt8) (pos : Nat)
 | loop (st : Nat) (pend : Option Code) (f : FuncId) (fr : List AB) (ps : List Tmp) (a b : Code)
 | chan (cap : Nat) (buf : List AB)
 deriving Inhabited
inductive Tr (α : Type) where
 | leaf
 | node (l : Tr α) (v : Option α) (r : Tr α)
def Tr.get {α : Type} : Tr α → Nat → Option α
 | .leaf, _ => none
 | .node l v r, i => bif Nat.beq i 0 then v else bif Nat.beq (i % 2) 1 then l.get (i / 2) else r.get (i / 2 - 1)
def Tr.set {α : Type} : Nat → Tr α → Nat → α → Tr α
 | 0, t, _, _ => t
 | f + 1, .leaf, i, x => bif Nat.beq i 0 then .node .leaf (some x) .leaf else bif Nat.beq (i % 2) 1 then .node (Tr.set f .leaf (i / 2) x) none .leaf else .node .leaf none (Tr.set f .leaf (i / 2 - 1) x)
 | f + 1, .node l v r, i, x => bif Nat.beq i 0 then .node l (some x) r else bif Nat.beq (i % 2) 1 then .node (Tr.set f l (i / 2) x) v r else .node l v (Tr.set f r (i / 2 - 1) x)
structure AD where
 size : Nat
 tr : Tr Bm
def AD.get (h : AD) (i : Nat) : Option Bm := bif Nat.blt i h.size then h.tr.get i else none
def AD.set (h : AD) (i : Nat) (o : Bm) : AD := ⟨h.size, Tr.set (i + 1) h.tr i o⟩
def AD.push (h : AD) (o : Bm) : AD := ⟨h.size + 1, Tr.set (h.size + 1) h.tr h.size o⟩
structure Gd where
 floor : Nat
 BP : List Nat
def Gd.may (g : Gd) (id : Nat) : Bool := Nat.ble g.floor id && !(g.BP.any (Nat.beq id))
abbrev Fr := List AB
def nth : List AB → Nat → AB
 | [], _ => .tuple []
 | a :: _, 0 => a
 | _ :: l, i + 1 => nth l i
def put (fr : Fr) (dst : Option Tmp) (v : AB) : Fr :=
 match dst with
 | some d => fr.set d v
 | none => fr
def AB.one : AB → Bool
 | .undef | .agg _ | .tuple _ => false
 | _ => true
def AB.cells? : AB → Option (List AB)
 | .undef | .tuple _ => none
 | .agg cs => some cs
 | v => some [v]
def Mo : Value → AB
 | .bool b => .bool b
 | .int k n => .int k n
 | .string s => .str s.data.toList
 | .pointer none => .ptr none
 | .slice none 0 0 => .slice none 0
 | .map none => .map none
 | .chan none => .chan none
 | .nilFunc => .nilFunc
 | .nilIface => .nilIface
 | _ => .undef
def XE : Value → AB
 | .agg cs => .agg (cs.toList.map Mo)
 | .tuple vs => .tuple (vs.toList.map Mo)
 | v => Mo v
def ev (fr : Fr) : Operand → AB
 | .tmp t => nth fr t
 | .const v => XE v
 | .global g => .Ij g 0
 | .func f => .func (.func f) [] []
def ER (cs : List AB) (o : Nat) (new : List AB) : List AB := cs.take o ++ (new ++ cs.drop (o + new.length))
section
variable (P : Program)
def CE (t : TypeId) : Option Nat := (P.info? t).map (·.size)
def Iu (t : TypeId) : Option Bool :=
 match P.underlying t with
 | some (.struct _) | some (.array _ _) => some true
 | some _ => some false
 | none => none
def CM (ob : Option Bm) (o n : Nat) : Option (List AB) :=
 match ob with
 | some (.cells _ st cs) => if st ≠ 0 ∧ o + n ≤ cs.length then some ((cs.drop o).take n) else none
 | _ => none
def Gc (ob : Option Bm) (t : TypeId) (o : Nat) : Option AB :=
 match Iu P t with
 | some true => (CE P t).bind fun n => (CM ob o n).map .agg
 | some false =>
  match CM ob o 1 with
  | some [v] => some v
  | _ => none
 | none => none
def FC : AB → AB
 | .slice none 0 => .Iw 0 []
 | v => v
def Nb : Option TypeId → List AB → List AB
 | none, l => l
 | some _, l => l.map FC
def CN (g : Gd) (h : AD) (id o : Nat) (new : List AB) : Option AD :=
 match h.get id with
 | some (.cells gr 2 cs) => if g.may id = true ∧ o + new.length ≤ cs.length ∧ new.all AB.one = true then some (h.set id (.cells gr 2 (ER cs o (Nb gr new)))) else none
 | _ => none
def KM (g : Gd) (h : AD) (t : TypeId) (id o : Nat) (v : AB) : Option AD :=
 match v.cells?, CE P t with
 | some new, some n => if new.length = n then CN g h id o new else none
 | _, _ => none
abbrev Vj := (Nat → AB) × Bm
def Np (v : AB) : Option Vj :=
 match v.cells? with
 | some cs => if cs.all AB.one = true then some (fun n => .ptr (some (n, 0)), .cells none 2 cs) else none
 | none => none
def Hh (t : TypeId) : Option AB :=
 match P.info? t with
 | some i => i.zero.map XE
 | none => none
def Jp (place : Nat → Option (Nat × Nat)) (cells : List AB) : List (Nat × AB) → Option (List AB)
 | [] => some cells
 | (i, v) :: rest =>
  match place i, v.cells? with
  | some (off, size), some new => if new.length = size ∧ off + size ≤ cells.length then Jp place (ER cells off new) rest else none
  | _, _ => none
def QT (fs : List Field) : Option (List (Nat × Nat)) := fs.mapM fun f => (P.info? f.type).map fun i => (f.offset, i.size)
def SR (t : TypeId) (parts : List (Nat × AB)) : Option AB :=
 match P.underlying t, (Hh P t).bind AB.cells? with
 | some (.array _ e), some z => (CE P e).bind fun n => (Jp (fun i => some (i * n, n)) z parts).map .agg
 | some (.struct fs), some z => (QT P fs.toList).bind fun ps => (Jp (ps[·]?) z parts).map .agg
 | _, _ => none
def EW (z : List AB) : Nat → List AB
 | 0 => []
 | n + 1 => z ++ EW z n
def J6 (t : TypeId) (len : Nat) (parts : List (Nat × AB)) : Option Vj :=
 match P.underlying t with
 | some (.slice e) =>
  match CE P e, (Hh P e).bind AB.cells? with
  | some n, some z =>
   if len * n ≤ 16777216 ∧ z.length = n ∧ n ≠ 0 then
    match Jp (fun i => some (i * n, n)) (EW z len) parts with
    | some cs => if (cs.map FC).all AB.one = true then some (fun n => .slice (some (n, 0)) len, .cells (some e) 2 (cs.map FC)) else none
    | none => none
   else none
  | _, _ => none
 | _ => none
def Ld (op : BinOp) (k : IntKind) (a b : Int) : Option AB :=
 match op with
 | .add => some (.int k (k.wrap (a + b)))
 | .sub => some (.int k (k.wrap (a - b)))
 | .mul => some (.int k (k.wrap (a * b)))
 | .quo => if b = 0 then none else some (.int k (k.wrap (a.tdiv b)))
 | .rem => if b = 0 then none else some (.int k (a.tmod b))
 | .and => some (.int k (k.wrap (BitVec.ofInt k.bits a &&& BitVec.ofInt k.bits b).toNat))
 | .or => some (.int k (k.wrap (BitVec.ofInt k.bits a ||| BitVec.ofInt k.bits b).toNat))
 | .xor => some (.int k (k.wrap (BitVec.ofInt k.bits a ^^^ BitVec.ofInt k.bits b).toNat))
 | .andNot => some (.int k (k.wrap (BitVec.ofInt k.bits a &&& ~~~BitVec.ofInt k.bits b).toNat))
 | .eql => some (.bool (a == b))
 | .neq => some (.bool (a != b))
 | .lss => some (.bool (decide (a < b)))
 | .leq => some (.bool (decide (a ≤ b)))
 | .gtr => some (.bool (decide (a > b)))
 | .geq => some (.bool (decide (a ≥ b)))
 | _ => none
def Ql (op : BinOp) (k : IntKind) (a b : Int) : Option AB :=
 if b < 0 then none else
 match op with
 | .shl => some (.int k (k.wrap (a * 2 ^ (min b.toNat k.bits))))
 | .shr => some (.int k (a.fdiv (2 ^ (min b.toNat k.bits))))
 | _ => none
def QZ (op : BinOp) (a b : List UInt8) : Option AB :=
 match op with
 | .add => if a.length + b.length ≤ 9223372036854775807 then some (.str (a ++ b)) else none
 | .eql => some (.bool (a == b))
 | .neq => some (.bool !(a == b))
 | .lss => some (.bool (Op.bytesLess a b))
 | .leq => some (.bool (Op.bytesLess a b || a == b))
 | .gtr => some (.bool !(Op.bytesLess a b || a == b))
 | .geq => some (.bool !(Op.bytesLess a b))
 | _ => none
def Ib (t : TypeId) (cs : List AB) (off : Nat) : Option AB :=
 match Iu P t with
 | some true => (CE P t).bind fun n => if off + n ≤ cs.length then some (.agg ((cs.drop off).take n)) else none
 | some false => cs[off]?
 | none => none
def eqFields (eq : TypeId → AB → AB → Option Bool) (xs ys : List AB) : List Field → Option Bool
 | [] => some true
 | f :: fs =>
  if f.name = "_" then eqFields eq xs ys fs else
  match Ib P f.type xs f.offset, Ib P f.type ys f.offset with
  | some a, some b =>
   match eq f.type a b with
   | some true => eqFields eq xs ys fs
   | some false => some false
   | none => none
  | _, _ => none
def Lz (eq : TypeId → AB → AB → Option Bool) (e : TypeId) (z : Nat) (xs ys : List AB) : Nat → Nat → Option Bool
 | 0, _ => some true
 | n + 1, i =>
  match Ib P e xs (i * z), Ib P e ys (i * z) with
  | some a, some b =>
   match eq e a b with
   | some true => Lz eq e z xs ys n (i + 1)
   | some false => some false
   | none => none
  | _, _ => none
def IG : Nat → TypeId → AB → AB → Option Bool
 | 0, _, _, _ => none
 | d + 1, t, x, y =>
  match P.underlying t, x, y with
  | some .bool, .bool a, .bool b => some (a == b)
  | some (.int _), .int k a, .int k' b => if k = k' then some (a == b) else none
  | some .string, .str a, .str b => some (a == b)
  | some (.pointer _), .ptr none, .ptr b => some b.isNone
  | some (.pointer _), .ptr (some _), .ptr none => some false
  | some (.pointer _), .Am _, .ptr none => some false
  | some (.map _ _), .map none, .map b => some b.isNone
  | some (.map _ _), .map (some _), .map none => some false
  | some (.func _ _ _), .nilFunc, .nilFunc => some true
  | some (.func _ _ _), .nilFunc, .func _ _ _ => some false
  | some (.func _ _ _), .func _ _ _, .nilFunc => some false
  | some (.struct fs), .agg xs, .agg ys => if P.stoodInHeld t = true then none else eqFields P (IG d) xs ys fs.toList
  | some (.array n e), .agg xs, .agg ys => (CE P e).bind fun z => Lz P (IG d) e z xs ys n 0
  | _, _, _ => none
def Wv : AB → Bool
 | .bool _ | .ptr _ | .slice _ _ | .map _ | .nilFunc | .func _ _ _ | .Iw _ _ | .Am _ => true
 | _ => false
def TO (op : BinOp) (t : TypeId) (x y : AB) : Option AB :=
 match x, y with
 | .int k a, .int k' b =>
  match op with
  | .shl | .shr => Ql op k a b
  | _ => if k = k' then Ld op k a b else none
 | .str a, .str b => QZ op a b
 | .agg xs, .agg ys =>
  if P.eqGuardType P.depth t = true then none else
  match op with
  | .eql => (IG P 10000 t (.agg xs) (.agg ys)).map .bool
  | .neq => (IG P 10000 t (.agg xs) (.agg ys)).map fun b => .bool !b
  | _ => none
 | x, y =>
  if Wv x = true then
   match op with
   | .eql => (IG P 10000 t x y).map .bool
   | .neq => (IG P 10000 t x y).map fun b => .bool !b
   | _ => none
  else none
def Y8 : Operand → Bool
 | .const _ => true
 | _ => false
def Z7 (op : BinOp) (t : TypeId) (c : Bool) : Option AB :=
 match P.underlying t with
 | some (.interface _) => bif c then (match op with | .eql => some (.bool true) | .neq => some (.bool false) | _ => none) else none
 | _ => none
def SZ (op : BinOp) (t : TypeId) (c : Bool) (x y : AB) : Option AB :=
 match x, y with
 | .nilIface, .nilIface => Z7 P op t c
 | x, y => TO P op t x y
def af (op : UnOp) (x : AB) : Option AB :=
 match op, x with
 | .neg, .int k n => Ld .sub k 0 n
 | .xor, .int k n => Ld .xor k (if k.signed then -1 else k.max) n
 | .not, .bool b => some (.bool !b)
 | _, _ => none
def bytesOf : List AB → Option (List UInt8)
 | [] => some []
 | .int .u8 n :: r => (bytesOf r).map (UInt8.ofNat n.toNat :: ·)
 | _ => none
def VL (src dst : TypeId) (x : AB) : Option AB :=
 match P.underlying src, P.underlying dst, x with
 | some _, some (.int k), .int _ n => some (.int k (k.wrap n))
 | some _, some .string, .str s => some (.str s)
 | some _, some .string, .int _ n => some (.str (Utf8.encode n).data.toList)
 | _, _, _ => none
def Wf (src dst : TypeId) (x : AB) : Option Vj :=
 match P.underlying src, P.underlying dst, x with
 | some _, some (.slice e), .str s =>
  match P.underlying e, CE P e with
  | some (.int .u8), some 1 => if s.length ≤ 1099511627776 then some (fun n => .slice (some (n, 0)) s.length, .cells (some e) 2 (s.map fun b => .int .u8 b.toNat)) else none
  | _, _ => none
 | _, _, _ => none
def P3 (ob : Option Bm) (src dst : TypeId) (x : AB) : Option AB :=
 match P.underlying src, P.underlying dst, x with
 | some (.slice e), some .string, .slice r n =>
  match P.underlying e with
  | some (.int .u8) =>
   match r with
   | none => some (.str [])
   | some (_, o) => if n = 0 then some (.str []) else (CM ob o n).bind fun cs => (bytesOf cs).map .str
  | _ => none
 | some (.slice e), some .string, .Iw n cs =>
  match P.underlying e with
  | some (.int .u8) => if cs.length = n then (bytesOf cs).map .str else none
  | _ => none
 | _, _, _ => none
def Jd (t : TypeId) (l c : AB) : Option Vj :=
 match P.underlying t, l, c with
 | some (.slice e), .int _ l, .int _ c =>
  match P.info? e with
  | some i =>
   match i.zero.map XE with
   | some z =>
    match z.cells?.map (·.map FC) with
    | some zc =>
     if 0 ≤ l ∧ l ≤ c ∧ c ≤ 1099511627776 ∧ i.bytes * c ≤ 1099511627776 ∧ zc.length = i.size ∧ zc.all AB.one = true then
      some (fun n => .slice (some (n, 0)) l.toNat, .cells (some e) 2 (EW zc c.toNat))
     else none
    | none => none
   | none => none
  | none => none
 | _, _, _ => none
def EN (n : Nat) (lo hi : Option AB) : Option (Nat × Nat) :=
 match hi with
 | some (.int _ u) =>
  if 0 ≤ u ∧ u ≤ n then
   match lo with
   | some (.int _ l) => if 0 ≤ l ∧ l ≤ u then some (l.toNat, u.toNat) else none
   | some _ => none
   | none => some (0, u.toNat)
  else none
 | some _ => none
 | none =>
  match lo with
  | some (.int _ l) => if 0 ≤ l ∧ l ≤ n then some (l.toNat, n) else none
  | some _ => none
  | none => some (0, n)
def Qv (t : TypeId) (x : AB) (lo hi : Option AB) : Option AB :=
 match P.underlying t, x with
 | some .string, .str s => (EN s.length lo hi).map fun (l, u) => .str ((s.drop l).take (u - l))
 | _, _ => none
def Ln (ob : Option Bm) (t : TypeId) (x : AB) (lo hi : Option AB) : Option AB :=
 match P.underlying t, x with
 | some (.array n e), .ptr (some (id, o)) =>
  match ob with
  | some (.cells none _ _) => (CE P e).bind fun z => (EN n lo hi).map fun (l, u) => .slice (some (id, o + l * z)) (u - l)
  | _ => none
 | some (.slice e), .slice none 0 => (CE P e).bind fun _ => (EN 0 lo hi).map fun _ => .slice none 0
 | some (.slice e), .Iw n cs => (CE P e).bind fun z => if cs.length = n * z then (EN n lo hi).map fun (l, u) => .Iw (u - l) ((cs.drop (l * z)).take ((u - l) * z)) else none
 | some (.slice e), .slice (some (id, o)) n =>
  match ob, CE P e with
  | some (.cells none _ _), some z => (EN n lo hi).map fun (l, u) => .slice (some (id, o + l * z)) (u - l)
  | some (.cells (some e') _ _), some z => if CE P e' = some z then (EN n lo hi).map fun (l, u) => .slice (some (id, o + l * z)) (u - l) else none
  | _, _ => none
 | _, _ => none
def Lj (s : TypeId) (x : AB) (f : Nat) : Option AB :=
 match P.underlying s, x with
 | some (.struct fs), .ptr (some (id, o)) =>
  match fs[f]? with
  | some fd =>
   match CE P fd.type with
   | some 0 => none
   | some _ => some (.ptr (some (id, o + fd.offset)))
   | none => none
  | none => none
 | some (.struct fs), .Ij g o =>
  match fs[f]? with
  | some fd =>
   match CE P fd.type with
   | some 0 => none
   | some _ => some (.Ij g (o + fd.offset))
   | none => none
  | none => none
 | some (.struct fs), .Am cs =>
  match fs[f]? with
  | some fd =>
   match CE P fd.type with
   | some 0 => none
   | some _ => some (.Am (cs.drop fd.offset))
   | none => none
  | none => none
 | _, _ => none
def Sy (s : TypeId) (x : AB) (f : Nat) : Option AB :=
 match P.underlying s, x with
 | some (.struct fs), .agg cs =>
  match fs[f]? with
  | some fd => Ib P fd.type cs fd.offset
  | none => none
 | _, _ => none
def Hp (t : TypeId) (x i : AB) : Option AB :=
 match P.underlying t, x, i with
 | some (.array n e), .ptr (some (id, o)), .int _ i => if 0 ≤ i ∧ i < n then (CE P e).map fun z => .ptr (some (id, o + i.toNat * z)) else none
 | some (.slice e), .slice (some (id, o)) n, .int _ i => if 0 ≤ i ∧ i < n then (CE P e).map fun z => .ptr (some (id, o + i.toNat * z)) else none
 | some (.array n e), .Ij g o, .int _ i => if 0 ≤ i ∧ i < n then (CE P e).map fun z => .Ij g (o + i.toNat * z) else none
 | some (.array n e), .Am cs, .int _ i => if 0 ≤ i ∧ i < n then (CE P e).map fun z => .Am (cs.drop (i.toNat * z)) else none
 | some (.slice e), .Iw n cs, .int _ i => if 0 ≤ i ∧ i < n then (CE P e).bind fun z => if cs.length = n * z ∧ z ≠ 0 then some (.Am ((cs.drop (i.toNat * z)).take z)) else none else none
 | _, _, _ => none
def Mf (t : TypeId) (x i : AB) : Option AB :=
 match P.underlying t, x, i with
 | some (.array n e), .agg cs, .int _ i => if 0 ≤ i ∧ i < n then (CE P e).bind fun z => Ib P e cs (i.toNat * z) else none
 | some .string, .str s, .int _ i => if 0 ≤ i then (s[i.toNat]?).map fun b => .int .u8 b.toNat else none
 | _, _, _ => none
def Db (h : AD) (z n : Nat) : AB → Option (List AB)
 | .slice (some (id, o)) _ => if n = 0 then some [] else CM (h.get id) o (n * z)
 | .slice none _ => if n = 0 then some [] else none
 | .str s => if z = 1 then some ((s.take n).map fun b => .int .u8 b.toNat) else none
 | .Iw n' cs => if n ≤ n' ∧ cs.length = n' * z then some (cs.take (n * z)) else none
 | _ => none
def Oa : AB → Option Nat
 | .slice _ n => some n
 | .Iw n _ => some n
 | .str s => some s.length
 | _ => none
def Il : TypeDesc → Bool
 | .int _ => false
 | _ => true
def appendCore (g : Gd) (h : AD) (e : TypeId) (i : TypeInfo) (r : Option (Nat × Nat)) (sl n : Nat) (x : AB) : Option (AB × AD) :=
 if n = 0 then some (.slice r sl, h)
 else if i.size ≠ 0 ∧ sl + n ≤ 1099511627776 ∧ (sl + n) * i.bytes ≤ 1099511627776 ∧ i.zero.map (·.cells.size) = some i.size then
  match (Db h i.size n x).map (·.map FC), Db h i.size sl (.slice r sl) with
  | some new, some Gp =>
   if (Gp ++ new).all AB.one = true then
    match r with
    | none => some (.slice (some (h.size, 0)) (sl + n), h.push (.cells (some e) 2 (Gp ++ new)))
    | some (id, _) =>
     match h.get id with
     | some (.cells (some e') 2 _) =>
      if g.may id = true ∧ e' = e then some (.slice (some (h.size, 0)) (sl + n), (h.set id (.cells (some e') 0 [])).push (.cells (some e) 2 (Gp ++ new)))
      else none
     | _ => none
   else none
  | _, _ => none
 else none
def MA (g : Gd) (h : AD) (ts : Array TypeId) (s x : AB) : Option (AB × AD) :=
 match ts[0]?, ts[1]?, s, Oa x with
 | some st, some xt, .slice r sl, some n =>
  match P.underlying st, P.underlying xt with
  | some (.slice e), some d =>
   match P.info? e with
   | some i => if Il d = true then appendCore g h e i r sl n x else none
   | none => none
  | _, _ => none
 | _, _, _, _ => none
def Rg (g : Gd) (h : AD) (ts : Array TypeId) (d x : AB) : Option (AB × AD) :=
 match ts[0]?, d, Oa x with
 | some dt, .slice r dl, some sl =>
  match P.underlying dt with
  | some (.slice e) =>
   match CE P e with
   | some z =>
    match Db h z (min sl dl) x, r with
    | some new, some (id, o) => if min sl dl = 0 then some (.int .i64 0, h) else (CN g h id o new).map fun h' => (.int .i64 (min sl dl : Nat), h')
    | some _, none => if min sl dl = 0 then some (.int .i64 0, h) else none
    | none, _ => none
   | none => none
  | _ => none
 | _, _, _ => none
def ZM (ts : Array TypeId) (x : AB) : Option AB :=
 match ts[0]? with
 | none => none
 | some t =>
  match P.underlying t, x with
  | some .string, .str s => some (.int .i64 s.length)
  | some (.array n _), _ => some (.int .i64 n)
  | some (.slice _), .slice _ n => some (.int .i64 n)
  | some (.slice _), .Iw n _ => some (.int .i64 n)
  | _, _ => none
def Yb (ob : Option Bm) (ts : Array TypeId) (x : AB) : Option AB :=
 match ts[0]? with
 | none => none
 | some t =>
  match P.underlying t, x with
  | some (.map _ _), .map none => some (.int .i64 0)
  | some (.map _ _), .map (some _) =>
   match ob with
   | some (.map st es) => if st ≠ 0 then some (.int .i64 es.length) else none
   | _ => none
  | some (.chan _ _), .chan (some _) =>
   match ob with
   | some (.chan _ buf) => some (.int .i64 buf.length)
   | _ => none
  | _, _ => none
def K1 (mx : Bool) : AB → List AB → Option AB
 | v, [] => some v
 | .int k a, .int k' b :: r => if k = k' then K1 mx (.int k (if mx then (if b > a then b else a) else (if b < a then b else a))) r else none
 | _, _ => none
def C1 (t : TypeId) (k : AB) : List (AB × AB) → Nat → Option (Option (Nat × AB))
 | [], _ => some none
 | (k', v) :: es, i =>
  match IG P 10000 t k k' with
  | some true => some (some (i, v))
  | some false => C1 t k es (i + 1)
  | none => none
def En : Nat → TypeId → AB → Bool
 | 0, _, _ => false
 | d + 1, t, v =>
  match P.underlying t, v with
  | some (.int _), .int _ _ => true
  | some .string, .str _ => true
  | some .bool, .bool _ => true
  | some (.struct fs), .agg cs => fs.toList.all (fun f => f.name != "_" && (match Ib P f.type cs f.offset with | some x => En d f.type x | none => false))
  | some (.array n e), .agg cs => (match CE P e with | some z => (List.range n).all (fun i => match Ib P e cs (i * z) with | some x => En d e x | none => false) | none => false)
  | _, _ => false
def Ks (ob : Option Bm) (t : TypeId) (x k : AB) (ok : Bool) : Option AB :=
 match P.underlying t, x with
 | some (.map kt et), .map r =>
  if En P 20 kt k = true then
   match (match r with | none => some [] | some _ => match ob with | some (.map st es) => if st ≠ 0 then some es else none | _ => none) with
   | some es =>
    match C1 P kt k es 0 with
    | some (some (_, v)) => some (if ok then .tuple [v, .bool true] else v)
    | some none => (Hh P et).map fun z => if ok then .tuple [z, .bool false] else z
    | none => none
   | none => none
  else none
 | _, _ => none
def OE : AB → AB → Bool
 | .int k a, .int k' b => decide (k = k') && a == b
 | .str a, .str b => a == b
 | .bool a, .bool b => a == b
 | _, _ => false
def LL : AB → AB → Bool
 | .agg a, .agg b => a.length == b.length && (a.zip b).all fun p => OE p.1 p.2
 | x, y => OE x y
def Nk (g : Gd) (h : AD) : AB → Option (AB × AD)
 | .slice none 0 => some (.Iw 0 [], h)
 | .slice (some (id, 0)) n =>
  bif Nat.beq n 0 then some (.Iw 0 [], h) else
  match h.get id with
  | some (.cells gr 2 cs) => bif g.may id then some (.Iw n cs, h.set id (.cells gr 0 cs)) else none
  | some (.cells _ 0 (c :: cs)) => some (.Iw n (c :: cs), h)
  | _ => none
 | v => some (v, h)
def HT (g : Gd) (h : AD) (t : TypeId) (m k v : AB) : Option AD :=
 match P.underlying t, m with
 | some (.map kt _), .map (some id) =>
  if En P 20 kt k = true ∧ g.may id = true then
   match h.get id with
   | some (.map 2 es) =>
    match C1 P kt k es 0 with
    | some (some (i, _)) =>
     match es[i]? with
     | some (k', _) => if LL k' k = true then some (h.set id (.map 2 (es.set i (k, v)))) else none
     | none => none
    | some none => some (h.set id (.map 2 (es ++ [(k, v)])))
    | none => none
   | _ => none
  else none
 | _, _ => none
def FJ (g : Gd) (h : AD) (t : TypeId) (m k v : AB) : Option AD := (Nk g h v).bind fun r => HT P g r.2 t m k r.1
def K0 (g : Gd) (h : AD) (ts : Array TypeId) (m k : AB) : Option AD :=
 match ts[0]? with
 | none => none
 | some t =>
  match P.underlying t, m with
  | some (.map kt _), .map (some id) =>
   if En P 20 kt k = true ∧ g.may id = true then
    match h.get id with
    | some (.map 2 es) =>
     match C1 P kt k es 0 with
     | some (some (i, _)) => some (h.set id (.map 2 (es.eraseIdx i)))
     | some none => some h
     | none => none
    | _ => none
   else none
  | _, _ => none
def As : Op → Nat
 | .move _ | .assign _ | .pick .. | .build .. | .nilCheck _ | .binOp .. | .unOp .. | .makeFunc .. | .fieldAddr .. | .field .. | .indexAddr .. | .index .. | .extract .. => 0
 | .slice t .. => match P.underlying t with | some .string => 0 | _ => 1
 | .convert s d _ =>
  match P.underlying s, P.underlying d with
  | some (.slice _), some .string => 1
  | some (.slice _), some (.slice _) => 3
  | _, some (.slice _) => 2
  | _, _ => 0
 | .load .. | .lookup .. => 1
 | .alloc _ | .box .. | .buildSlice .. | .makeMap .. | .makeSlice .. | .range .. | .makeChan .. => 2
 | .call { callee := .builtin .len, argTypes := ts, .. } =>
  match ts[0]? with
  | some t => match P.underlying t with | some (.map _ _) => 1 | some (.chan _ _) => 1 | _ => 0
  | none => 0
 | .call { callee := .builtin .min, .. } | .call { callee := .builtin .max, .. } => 0
 | _ => 3
def IF (fr : Fr) : Op → Option AB
 | .move x | .assign x => some (ev fr x)
 | .pick c a b =>
  match ev fr c with
  | .bool b' => some (bif b' then ev fr a else ev fr b)
  | _ => none
 | .build t parts => SR P t (parts.toList.map fun (i, x) => (i, ev fr x))
 | .nilCheck x =>
  match ev fr x with
  | .ptr (some r) => some (.ptr (some r))
  | .Ij g o => some (.Ij g o)
  | .Am cs => some (.Am cs)
  | .func (.func f) a b => some (.func (.func f) a b)
  | _ => none
 | .binOp op t x y _ => SZ P op t (Y8 x || Y8 y) (ev fr x) (ev fr y)
 | .unOp op _ x => af op (ev fr x)
 | .convert s d x => VL P s d (ev fr x)
 | .makeFunc fn first cap => some (.func fn (first.toList.map (ev fr)) (cap.toList.map (ev fr)))
 | .slice t x lo hi none => Qv P t (ev fr x) (lo.map (ev fr)) (hi.map (ev fr))
 | .fieldAddr s x f => Lj P s (ev fr x) f
 | .field s x f => Sy P s (ev fr x) f
 | .indexAddr t x i => Hp P t (ev fr x) (ev fr i)
 | .index t x i => Mf P t (ev fr x) (ev fr i)
 | .extract x i =>
  match ev fr x with
  | .tuple vs => vs[i]?
  | _ => none
 | .call { callee := .builtin b, args := as, argTypes := ts } =>
  match b, as.toList.map (ev fr) with
  | .len, [x] => ZM P ts x
  | .min, x :: r => K1 false x r
  | .max, x :: r => K1 true x r
  | _, _ => none
 | _ => none
def EI : AB → Option Nat
 | .ptr (some (id, _)) => some id
 | .slice (some (id, _)) _ => some id
 | .map (some id) => some id
 | .chan (some id) => some id
 | _ => none
def C3 (fr : Fr) : Op → Option Nat
 | .load _ x => EI (ev fr x)
 | .slice _ x _ _ _ => EI (ev fr x)
 | .convert _ _ x => EI (ev fr x)
 | .lookup _ x _ _ => EI (ev fr x)
 | .call { args := as, .. } =>
  match as.toList with
  | [x] => EI (ev fr x)
  | _ => none
 | _ => none
def Jn (G : Nat → Option (List AB)) (fr : Fr) (ob : Option Bm) : Op → Option AB
 | .load t a =>
  match ev fr a with
  | .ptr (some (_, o)) => Gc P ob t o
  | .Ij g o => Gc P ((G g).map fun cs => .cells none 1 cs) t o
  | .Am cs => Gc P (some (.cells none 1 cs)) t 0
  | _ => none
 | .slice t x lo hi none => Ln P ob t (ev fr x) (lo.map (ev fr)) (hi.map (ev fr))
 | .convert s d x => P3 P ob s d (ev fr x)
 | .lookup t x k ok => Ks P ob t (ev fr x) (ev fr k) ok
 | .call { callee := .builtin .len, args := as, argTypes := ts } =>
  match as.toList with
  | [x] => Yb P ob ts (ev fr x)
  | _ => none
 | _ => none
def O4 (fr : Fr) : Op → Option Vj
 | .alloc e => (Hh P e).bind Np
 | .box _ x => Np (ev fr x)
 | .buildSlice t len parts => J6 P t len (parts.toList.map fun (i, x) => (i, ev fr x))
 | .convert s d x => Wf P s d (ev fr x)
 | .makeMap _ none => some (fun n => .map (some n), .map 2 [])
 | .makeSlice t l c => Jd P t (ev fr l) (ev fr c)
 | .makeChan t n =>
  match P.underlying t, ev fr n with
  | some (.chan _ e), .int _ n =>
   match P.info? e with
   | some i => if 0 ≤ n ∧ n ≤ 1099511627776 ∧ i.bytes * n ≤ 1099511627776 then some (fun k => .chan (some k), .chan n.toNat []) else none
   | none => none
  | _, _ => none
 | .range t x =>
  match P.underlying t, ev fr x with
  | some .string, .str s => some (fun n => .ptr (some (n, 0)), .iter s 0)
  | _, _ => none
 | _ => none
def TS (g : Gd) (h : AD) (s d : TypeId) (x : AB) : Option (AB × AD) :=
 match P.underlying s, P.underlying d, x with
 | some (.slice _), some (.slice e), .slice (some (id, o)) n =>
  match P.underlying e, h.get id with
  | some (.int .u8), some (.cells gr 2 cs) => bif Nat.beq s d && (g.may id && !(Nat.beq n 0)) then some (.slice (some (id, o)) n, h.set id (.cells gr 2 cs)) else none
  | _, _ => none
 | _, _, _ => none
def Jw (g : Gd) (h : AD) (fr : Fr) : Op → Option (AB × AD)
 | .convert s d x => TS P g h s d (ev fr x)
 | .store t a x =>
  match ev fr a with
  | .ptr (some (id, o)) => (KM P g h t id o (ev fr x)).map (.tuple [], ·)
  | _ => none
 | .mapUpdate t m k v | .insert t m k v => (FJ P g h t (ev fr m) (ev fr k) (ev fr v)).map (.tuple [], ·)
 | .next it true =>
  match ev fr it with
  | .ptr (some (id, 0)) =>
   match h.get id with
   | some (.iter s pos) =>
    if g.may id = true then
     if pos < s.length then
      some (.tuple [.bool true, .int .i64 pos, .int .i32 (Utf8.decode ⟨⟨s⟩⟩ pos).1], h.set id (.iter s (pos + (Utf8.decode ⟨⟨s⟩⟩ pos).2)))
     else some (.tuple [.bool false], h)
    else none
   | _ => none
  | _ => none
 | .call { callee := .builtin b, args := as, argTypes := ts } =>
  match b, as.toList.map (ev fr) with
  | .append, [s, x] => MA P g h ts s x
  | .copy, [d, x] => Rg P g h ts d x
  | .delete, [m, k] => (K0 P g h ts m k).map (.tuple [], ·)
  | _, _ => none
 | _ => none
def HR (G : Nat → Option (List AB)) (g : Gd) (h : AD) (fr : Fr) (op : Op) : Option (AB × AD) :=
 match As P op with
 | 0 => (IF P fr op).map (·, h)
 | 1 =>
  match C3 fr op with
  | none => (Jn P G fr none op).map (·, h)
  | some id =>
   match h.get id with
   | some ob => (Jn P G fr (some ob) op).map (·, h)
   | none => none
 | 2 => (O4 P fr op).map fun x => (x.1 h.size, h.push x.2)
 | _ => Jw P g h fr op
end
structure R3 where
 o8 : Array Oper
 b : Nat
 o9 : Array Oper
 tb : Tmp
 b2 : Nat
 Q0 : Array Oper
 body : Code
def Oy : Code → Option R3
 | .seq (.region _ o8 false) (.block b (.loop (.seq (.region _ o9 false) (.seq (.cond (.tmp tb) .skip (.exit b')) (.block b2 (.seq (.region _ Q0 false) body)))))) => bif Nat.beq b b' && !Nat.beq b b2 then some ⟨o8, b, o9, tb, b2, Q0, body⟩ else none
 | _ => none
def W3 (o9 : Array Oper) (tI tb : Tmp) : Option Tmp :=
 match o9.toList with
 | [n, x] =>
  match n.op, n.dst, n.guard, x.op, x.dst, x.guard with
  | .next (.tmp t) false, some tn, none, .extract (.tmp tn') 0, some tb', none => bif Nat.beq t tI && Nat.beq tn tn' && Nat.beq tb tb' && !Nat.beq tn tI && !Nat.beq tb tI then some tn else none
  | _, _, _, _, _, _ => none
 | _ => none
def VV (Q0 : Array Oper) (tI : Tmp) : Option (Tmp × List Oper) :=
 match Q0.toList with
 | n :: rest =>
  match n.op, n.dst, n.guard with
  | .entry (.tmp t), some te, none => bif Nat.beq t tI && !Nat.beq te tI then some (te, rest) else none
  | _, _, _ => none
 | _ => none
def Qo (n : Nat) : AB → Bool
 | .undef | .bool _ | .int _ _ | .str _ | .ptr none | .slice none _ | .map none | .nilFunc | .nilIface => true
 | .ptr (some (i, _)) => Nat.blt i n
 | .slice (some (i, _)) _ => Nat.blt i n
 | _ => false
def ID (n : Nat) : AB → Bool
 | .agg cs => cs.all (Qo n)
 | v => Qo n v
def Dy (ks : List Nat) : Nat → Fr → Fr
 | _, [] => []
 | i, a :: l => (bif ks.any (Nat.beq i) then a else .undef) :: Dy ks (i + 1) l
def Lu (it : Nat) : AB → Bool
 | .ptr (some (a, b)) => Nat.beq a it && Nat.beq b 0
 | _ => false
abbrev PT := Option (Nat × Option TypeId)
def C4 (hh : AD) (ob : PT) (cs : List AB) : AD :=
 match ob with
 | none => hh
 | some (id, gr) => hh.set id (.cells gr 2 cs)
def Mi (n : Nat) : PT → Gd
 | none => ⟨n, []⟩
 | some (id, _) => ⟨0, (List.range n).filter fun k => !Nat.beq k id⟩
def UL (g : Gd) : PT → Bool
 | none => true
 | some (id, _) => g.may id
def Q6 (h : AD) (fr : Fr) : Option Tmp → Option (PT × List AB)
 | none => some (none, [])
 | some t =>
  match nth fr t with
  | .slice (some (id, _)) _ =>
   match h.get id with
   | some (.cells gr 2 cs) => some (some (id, gr), cs)
   | _ => none
  | _ => none
def LK : AB → Bool
 | .bool _ | .int _ _ | .str _ => true
 | _ => false
def OS (ob : PT) (h : AD) : Option (List AB) :=
 match ob with
 | none => some []
 | some (id, gr) =>
  match h.get id with
  | some (.cells gr' 2 cs) => if gr' = gr ∧ cs.all LK = true then some cs else none
  | _ => none
def O8 (ks : List Nat) (n : Nat) (ob : PT) (fr : Fr) (h : AD) (r : Bool) : Option (Bool × Fr × List AB) :=
 bif (Dy ks 0 fr).all (ID n) then (OS ob h).map fun cs => (r, Dy ks 0 fr, cs) else none
def C2 {α β : Type} (rnd : α → β → Option (Bool × α)) : List β → α → Option (Bool × α)
 | [], a => some (false, a)
 | p :: l, a =>
  match rnd a p with
  | some (false, b) => C2 rnd l b
  | r => r
def OT (ks : List Nat) (n tn tb : Nat) : Bool := !ks.any (Nat.beq tn) && !ks.any (Nat.beq tb) && Nat.blt tn n && Nat.blt tb n
def ak : Type := { d : Prop → Bool // (∀ p : Prop, d p = true → p) ∧ ∀ p q : Prop, d p = true → (p → q) → d q = true }
def YZ : ak := ⟨fun _ => false, fun _ h => (nomatch h), fun _ _ h => (nomatch h)⟩
noncomputable def Qm : ak := ⟨fun p => @decide p (Classical.propDecidable p), fun p h => @of_decide_eq_true p (Classical.propDecidable p) h, fun p q h k => @decide_eq_true q (Classical.propDecidable q) (k (@of_decide_eq_true p (Classical.propDecidable p) h))⟩
structure Ft where
 P : Program
 kind : Nat → Nat
 LD : Nat → Nat → List (Nat × List Nat)
 ext : Nat → Gd → AD → List AB → Option (AB × AD)
 Cd : Nat → Option (List AB) := fun _ => none
 aH : FuncId → Code → Code → Bool := fun _ _ _ => false
 still : FuncId → List Bool := fun _ => []
 Wd : FuncId → Nat → Option (List Nat × List Nat × Option Tmp) := fun _ _ => none
 dec : ak := YZ
inductive By where
 | normal
 | exit (id : Nat)
 | ret
structure Self where
 call : Gd → AD → FuncId → List AB → Option (AB × AD)
 loop : Gd → FuncId → Code → Fr → AD → Option (By × Fr × AD)
 round : Gd → AD → Nat → List AB → Option (AB × AD)
section
variable (C : Ft) (S : Self)
def A7 (g : Gd) (h : AD) (fr : Fr) (op : Op) : Option (AB × AD) :=
 match op with
 | .call { callee := .value x, args := as, .. } =>
  match ev fr x with
  | .func (.func f) first cap => S.call g h f (first ++ (as.toList.map (ev fr) ++ cap))
  | .Xi l => S.round g h l (as.toList.map (ev fr))
  | _ => none
 | op => HR C.P C.Cd g h fr op
def B7 (ops : Array Oper) (fr : Fr) (o : Oper) : Option Bool :=
 match o.guard with
 | none => some true
 | some (j, want) =>
  match (ops[j]?).bind (·.dst) with
  | none => some false
  | some d =>
   match nth fr d with
   | .bool b => some (b == want)
   | .undef => none
   | _ => some false
def DR (g : Gd) (ops : Array Oper) : List Oper → Fr → AD → Option (Fr × AD)
 | [], fr, h => some (fr, h)
 | o :: rest, fr, h =>
  match B7 ops fr o with
  | some true =>
   match A7 C S g h fr o.op with
   | some (v, h') => DR g ops rest (put fr o.dst v) h'
   | none => none
  | some false => DR g ops rest (put fr o.dst (.tuple [])) h
  | none => none
def HJ (tch : List (Nat × Nat)) (U : List Nat) : List Nat := tch.filterMap fun (i, id) => bif U.any (Nat.beq i) then some id else none
def Fg (P : Program) (h : AD) (fr : Fr) (i : Nat) (op : Op) (tch : List (Nat × Nat)) : List (Nat × Nat) :=
 match As P op with
 | 1 => match C3 fr op with | some id => (i, id) :: tch | none => tch
 | 2 => (i, h.size) :: tch
 | _ => tch
def VX : AB → AB → Bool
 | .ptr (some (a, b)), .ptr (some (c, d)) => Nat.beq a c && Nat.beq b d
 | .int k a, .int k' b => decide (k = k') && decide (a = b)
 | .bool a, .bool b => a == b
 | .str a, .str b => decide (a = b)
 | .Iw 0 [], .Iw 0 [] => true
 | _, _ => false
def YT (ops : Array Oper) (fr : Fr) (h : AD) (i : Nat) : Bool :=
 match ops[i]? with
 | some o =>
  match B7 ops fr o with
  | some false => true
  | some true =>
   match o.dst, C3 fr o.op with
   | some d, some id =>
    Nat.blt d fr.length && (match h.get id with
     | some ob => (match Jn C.P C.Cd fr (some ob) o.op with | some v => VX v (nth fr d) | none => false)
     | none => false)
   | _, _ => false
  | none => false
 | none => false
def Na (ops : Array Oper) (U : List Nat) (fr : Fr) (h : AD) : Bool := U.all fun u => Nat.blt u 10000 || YT C ops fr h (u - 10000)
def Bw (g : Gd) (ops : Array Oper) : List (Nat × List Nat) → List (Nat × Nat) → Fr → AD → Option (Fr × AD)
 | [], _, fr, h => some (fr, h)
 | (i, U) :: rest, tch, fr, h =>
  match ops[i]? with
  | none => none
  | some o =>
   match B7 ops fr o with
   | some true =>
    match A7 C S ⟨g.floor, HJ tch U ++ g.BP⟩ h fr o.op with
    | some (v, h') => bif Na C ops U (put fr o.dst v) h' then Bw g ops rest (Fg C.P h fr i o.op tch) (put fr o.dst v) h' else none
    | none => none
   | some false => Bw g ops rest tch (put fr o.dst (.tuple [])) h
   | none => none
def BI (f : FuncId) (g : Gd) : Code → Fr → AD → Option (By × Fr × AD)
 | .skip, fr, h => some (.normal, fr, h)
 | .label _, fr, h => some (.normal, fr, h)
 | .region id ops draw, fr, h =>
  match (bif draw then Bw C S g ops (C.LD f id) [] fr h else DR C S g ops ops.toList fr h) with
  | some (fr', h') => some (.normal, fr', h')
  | none => none
 | .seq a b, fr, h =>
  match BI f g a fr h with
  | some (.normal, fr', h') => BI f g b fr' h'
  | r => r
 | .cond c a b, fr, h =>
  match ev fr c with
  | .bool true => BI f g a fr h
  | .bool false => BI f g b fr h
  | _ => none
 | .block id c, fr, h =>
  match BI f g c fr h with
  | some (.exit i, fr', h') => bif Nat.beq i id then some (.normal, fr', h') else some (.exit i, fr', h')
  | r => r
 | .loop c, fr, h =>
  match BI f g c fr h with
  | some (.normal, fr', h') => S.loop g f c fr' h'
  | r => r
 | .scope c, fr, h => BI f g c fr h
 | .exit id, fr, h => some (.exit id, fr, h)
 | .ret, fr, h => some (.ret, fr, h)
 | _, _, _ => none
def Vi (_ : Ft) (_ : Self) (_ : Gd) (_ : AD) (_ : Nat) (_ : List AB) : Option (AB × AD) := none
def JH (f : FuncId) (q : R3) (ks rs : List Nat) (it : Nat) (tI te : Tmp) (rest : List Oper) (hh : AD) (ob : PT) (σ : Fr × List AB) (p : AB × AB) : Option (Bool × Fr × List AB) :=
 match DR C S (Mi hh.size ob) q.Q0 rest (σ.1.set te (.tuple [p.1, p.2])) (C4 hh ob σ.2) with
 | some (fr2, h2) =>
  match BI C S f (Mi hh.size ob) q.body fr2 h2 with
  | some (.normal, fr, h) => bif Lu it (nth fr tI) then O8 ks hh.size ob fr h false else none
  | some (.exit i, fr, h) => bif Nat.beq i q.b2 && Lu it (nth fr tI) then O8 ks hh.size ob fr h false else none
  | some (.ret, fr, h) => O8 rs hh.size ob fr h true
  | none => none
 | none => none
def P2 (rnd : Fr × List AB → AB × AB → Option (Bool × Fr × List AB)) (es : List (AB × AB)) (σ : Fr × List AB) (hh : AD) (ob : PT) : Option (By × Fr × AD) :=
 match C2 rnd es σ with
 | some (r, fr, cs) => bif C.dec.1 (∀ es', es'.Perm es → C2 rnd es' σ = some (r, fr, cs)) then some (bif r then .ret else .normal, fr, C4 hh ob cs) else none
 | none => none
def NU (f : FuncId) (q : R3) (g : Gd) (ks rs : List Nat) (ot : Option Tmp) (orng : Oper) (fr1 : Fr) (h1 : AD) : Option (By × Fr × AD) :=
 match orng.op, orng.dst, orng.guard with
 | .range tM x, some tI, none =>
  match ev fr1 x, C.P.underlying tM, W3 q.o9 tI q.tb, VV q.Q0 tI with
  | .map (some id), some (.map _ _), some tn, some (te, rest) =>
   match h1.get id, Q6 h1 fr1 ot with
   | some (.map 2 es), some (ob, cs0) =>
    bif g.may id && UL g ob && (Dy ks 0 (fr1.set tI (.ptr (some (h1.size, 0))))).all (ID (h1.size + 1)) && Lu h1.size (nth (Dy ks 0 (fr1.set tI (.ptr (some (h1.size, 0))))) tI) && OT ks fr1.length tn q.tb && cs0.all LK then
     P2 C (JH C S f q ks rs h1.size tI te rest ((h1.set id (.map 0 [])).push (.cells none 0 [])) ob) es (Dy ks 0 (fr1.set tI (.ptr (some (h1.size, 0)))), cs0) ((h1.set id (.map 0 [])).push (.cells none 0 [])) ob
    else none
   | _, _ => none
  | _, _, _, _ => none
 | _, _, _ => none
def MX (f : FuncId) (q : R3) (g : Gd) (fr : Fr) (h : AD) : Option (By × Fr × AD) :=
 match C.Wd f q.b, q.o8.toList.getLast?, DR C S g q.o8 q.o8.toList.dropLast fr h with
 | some (ks, rs, ot), some orng, some (fr1, h1) => NU C S f q g ks rs ot orng fr1 h1
 | _, _, _ => none
def FN (f : FuncId) (g : Gd) : Code → Fr → AD → Option (By × Fr × AD)
 | .seq a b, fr, h =>
  match Oy (.seq a b) with
  | some q => MX C S f q g fr h
  | none =>
   match FN f g a fr h with
   | some (.normal, fr', h') => FN f g b fr' h'
   | r => r
 | c, fr, h => BI C S f g c fr h
def Gv (P : Program) (fr : Fr) (h : AD) : ResultVar → Option AB
 | .tmp t => some (nth fr t)
 | .cell a t =>
  match nth fr a with
  | .ptr (some (id, o)) => Gc P (h.get id) t o
  | _ => none
def D4 (P : Program) (fn : Func) (fr : Fr) (h : AD) : Option AB :=
 match fn.results.toList.mapM (Gv P fr h) with
 | some [v] => some v
 | some vs => some (.tuple vs)
 | none => none
def Ed : AB → Bool
 | .bool _ | .int _ _ | .str _ | .ptr none | .slice none _ | .map none | .chan none | .nilFunc | .nilIface => true
 | _ => false
def Hu : AB → Bool
 | .agg cs => cs.all Ed
 | v => Ed v
def MI : AB → Bool
 | .tuple vs => vs.all Hu
 | v => Hu v
def IK (g : Gd) (h : AD) (f : FuncId) (args : List AB) : Option (AB × AD) :=
 match C.P.funcs[f]? with
 | none => none
 | some fn =>
  match fn.body with
  | none => none
  | some c =>
   match BI C S f g c (args ++ List.replicate (fn.ntmps - args.length) (.tuple [])) h with
   | some (.normal, fr, h') => (D4 C.P fn fr h').map (·, h')
   | some (.ret, fr, h') => (D4 C.P fn fr h').map (·, h')
   | _ => none
def Oe (g : Gd) (h : AD) (f : FuncId) (args : List AB) : Option (AB × AD) :=
 match C.P.funcs[f]? with
 | none => none
 | some fn =>
  match fn.body with
  | none => none
  | some c =>
   match FN C S f g c (args ++ List.replicate (fn.ntmps - args.length) (.tuple [])) h with
   | some (.normal, fr, h') => (D4 C.P fn fr h').map (·, h')
   | some (.ret, fr, h') => (D4 C.P fn fr h').map (·, h')
   | _ => none
def TF (f : AD → AB → Option (AB × AD)) : List AB → AD → Option (List AB × AD)
 | [], h => some ([], h)
 | v :: vs, h =>
  match f h v with
  | some (v', h1) => (TF f vs h1).map fun r => (v' :: r.1, r.2)
  | none => none
def WB (g : Gd) (h : AD) : AB → Option (AB × AD)
 | .agg cs => (TF (Nk g) cs h).map fun r => (.agg r.1, r.2)
 | v => Nk g h v
def V3 (g : Gd) (h : AD) : AB → Option (AB × AD)
 | .tuple vs => (TF (WB g) vs h).map fun r => (.tuple r.1, r.2)
 | v => WB g h v
def Vq : AB → AB
 | .agg cs => .agg (cs.map FC)
 | v => FC v
def A9 : List Bool → List AB → List AB
 | true :: bs, v :: vs => Vq v :: A9 bs vs
 | false :: bs, v :: vs => v :: A9 bs vs
 | _, vs => vs
def Ji (g : Gd) (h : AD) (f : FuncId) (args : List AB) : Option (AB × AD) :=
 match C.kind f with
 | 1 => IK C S g h f (A9 (C.still f) args)
 | 2 =>
  match IK C S ⟨h.size, []⟩ h f args with
  | some (v, _) => bif MI v then some (v, h) else none
  | none => none
 | 3 => C.ext f g h args
 | 4 =>
  bif args.all Hu then
   match IK C S ⟨0, []⟩ ⟨0, .leaf⟩ f args with
   | some (v, _) => bif MI v then some (v, h) else none
   | none => none
  else none
 | 7 =>
  match IK C S g h f (A9 (C.still f) args) with
  | some (v, h') => V3 g h' v
  | none => none
 | 10 => Oe C S g h f (A9 (C.still f) args)
 | 11 =>
  match TF (WB g) args h with
  | some (args', h1) => IK C S g h1 f args'
  | none => none
 | _ => none
end
def Cy (C : Ft) : Nat → Self
 | 0 => ⟨fun _ _ _ _ => none, fun _ _ _ _ _ => none, fun _ _ _ _ => none⟩
 | n + 1 => ⟨Ji C (Cy C n), fun g f c => BI C (Cy C n) f g (.loop c), Vi C (Cy C n)⟩
def Za (C : Ft) (n : Nat) (g : Gd) (h : AD) (f : FuncId) (args : List AB) : Option (AB × AD) := (Cy C n).call g h f args
end Go.Av
