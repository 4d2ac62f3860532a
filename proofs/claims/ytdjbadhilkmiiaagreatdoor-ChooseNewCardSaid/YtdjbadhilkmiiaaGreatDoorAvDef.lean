/-
 A part.
-/
import Derived.Calls
namespace Go.Av
inductive AB where
 | undef
 | bool (b : Bool)
 | int (k : IntKind) (n : Int)
 | str (s : List UInt8)
 | ptr (r : Option (Nat × Nat))
 | JQ (g o : Nat)
 | slice (r : Option (Nat × Nat)) (len : Nat)
 | map (r : Option Nat)
 | chan (r : Option Nat)
 | func (fn : Fn) (first captured : List AB)
 | nilFunc
 | iface (t : TypeId) (v : AB)
 | nilIface
 | agg (cs : List AB)
 | tuple (vs : List AB)
 | HE (n : Nat) (cs : List AB)
 | BR (cs : List AB)
 | M4 (l : Nat)
 deriving Inhabited
inductive CY where
 | cells (grow : Option TypeId) (st : Nat) (cs : List AB)
 | map (st : Nat) (es : List (AB × AB))
 | iter (s : List UInt8) (pos : Nat)
 | loop (st : Nat) (pend : Option Code) (f : FuncId) (fr : List AB) (ps : List Tmp) (a b : Code)
 | chan (cap : Nat) (buf : List AB)
 deriving Inhabited
inductive Tr (α : Type) where
 | leaf
 | node (l : Tr α) (v : Option α) (r : Tr α)
def Tr.get {α : Type} : Tr α → Nat → Option α
 | .leaf, _ => none
 | .node l v r, i => bif Nat.beq i 0 then v else bif Nat.beq (i % 2) 1 then l.get (i / 2) else r.get (i / 2 - 1)
def Tr.set {α : Type} : Nat → Tr α → Nat → α → Tr α
 | 0, t, _, _ => t
 | f + 1, .leaf, i, x => bif Nat.beq i 0 then .node .leaf (some x) .leaf else bif Nat.beq (i % 2) 1 then .node (Tr.set f .leaf (i / 2) x) none .leaf else .node .leaf none (Tr.set f .leaf (i / 2 - 1) x)
 | f + 1, .node l v r, i, x => bif Nat.beq i 0 then .node l (some x) r else bif Nat.beq (i % 2) 1 then .node (Tr.set f l (i / 2) x) v r else .node l v (Tr.set f r (i / 2 - 1) x)
structure AJ where
 size : Nat
 tr : Tr CY
def AJ.get (h : AJ) (i : Nat) : Option CY := bif Nat.blt i h.size then h.tr.get i else none
def AJ.set (h : AJ) (i : Nat) (o : CY) : AJ := ⟨h.size, Tr.set (i + 1) h.tr i o⟩
def AJ.push (h : AJ) (o : CY) : AJ := ⟨h.size + 1, Tr.set (h.size + 1) h.tr h.size o⟩
structure Gd where
 floor : Nat
 Bo : List Nat
def Gd.may (g : Gd) (id : Nat) : Bool := Nat.ble g.floor id && !(g.Bo.any (Nat.beq id))
abbrev Fr := List AB
def nth : List AB → Nat → AB
 | [], _ => .tuple []
 | a :: _, 0 => a
 | _ :: l, i + 1 => nth l i
def put (fr : Fr) (dst : Option Tmp) (v : AB) : Fr :=
 match dst with
 | some d => fr.set d v
 | none => fr
def AB.one : AB → Bool
 | .undef | .agg _ | .tuple _ => false
 | _ => true
def AB.cells? : AB → Option (List AB)
 | .undef | .tuple _ => none
 | .agg cs => some cs
 | v => some [v]
def ND : Value → AB
 | .bool b => .bool b
 | .int k n => .int k n
 | .string s => .str s.data.toList
 | .pointer none => .ptr none
 | .slice none 0 0 => .slice none 0
 | .map none => .map none
 | .chan none => .chan none
 | .nilFunc => .nilFunc
 | .nilIface => .nilIface
 | _ => .undef
def Uh : Value → AB
 | .agg cs => .agg (cs.toList.map ND)
 | .tuple vs => .tuple (vs.toList.map ND)
 | v => ND v
def ev (fr : Fr) : Operand → AB
 | .tmp t => nth fr t
 | .const v => Uh v
 | .global g => .JQ g 0
 | .func f => .func (.func f) [] []
def Dv (cs : List AB) (o : Nat) (new : List AB) : List AB := cs.take o ++ (new ++ cs.drop (o + new.length))
section
variable (P : Program)
def DD (t : TypeId) : Option Nat := (P.info? t).map (·.size)
def Jt (t : TypeId) : Option Bool :=
 match P.underlying t with
 | some (.struct _) | some (.array _ _) => some true
 | some _ => some false
 | none => none
def DF (ob : Option CY) (o n : Nat) : Option (List AB) :=
 match ob with
 | some (.cells _ st cs) => if st ≠ 0 ∧ o + n ≤ cs.length then some ((cs.drop o).take n) else none
 | _ => none
def Gb (ob : Option CY) (t : TypeId) (o : Nat) : Option AB :=
 match Jt P t with
 | some true => (DD P t).bind fun n => (DF ob o n).map .agg
 | some false =>
  match DF ob o 1 with
  | some [v] => some v
  | _ => none
 | none => none
def Db (g : Gd) (h : AJ) (id o : Nat) (new : List AB) : Option AJ :=
 match h.get id with
 | some (.cells gr 2 cs) => if g.may id = true ∧ o + new.length ≤ cs.length ∧ new.all AB.one = true then some (h.set id (.cells gr 2 (Dv cs o new))) else none
 | _ => none
def K3 (g : Gd) (h : AJ) (t : TypeId) (id o : Nat) (v : AB) : Option AJ :=
 match v.cells?, DD P t with
 | some new, some n => if new.length = n then Db g h id o new else none
 | _, _ => none
abbrev T6 := (Nat → AB) × CY
def Nj (v : AB) : Option T6 :=
 match v.cells? with
 | some cs => if cs.all AB.one = true then some (fun n => .ptr (some (n, 0)), .cells none 2 cs) else none
 | none => none
def HA (t : TypeId) : Option AB :=
 match P.info? t with
 | some i => i.zero.map Uh
 | none => none
def KA (place : Nat → Option (Nat × Nat)) (cells : List AB) : List (Nat × AB) → Option (List AB)
 | [] => some cells
 | (i, v) :: rest =>
  match place i, v.cells? with
  | some (off, size), some new => if new.length = size ∧ off + size ≤ cells.length then KA place (Dv cells off new) rest else none
  | _, _ => none
def Pe (fs : List Field) : Option (List (Nat × Nat)) := fs.mapM fun f => (P.info? f.type).map fun i => (f.offset, i.size)
def Ry (t : TypeId) (parts : List (Nat × AB)) : Option AB :=
 match P.underlying t, (HA P t).bind AB.cells? with
 | some (.array _ e), some z => (DD P e).bind fun n => (KA (fun i => some (i * n, n)) z parts).map .agg
 | some (.struct fs), some z => (Pe P fs.toList).bind fun ps => (KA (ps[·]?) z parts).map .agg
 | _, _ => none
def FO (z : List AB) : Nat → List AB
 | 0 => []
 | n + 1 => z ++ FO z n
def GY : AB → AB
 | .slice none 0 => .HE 0 []
 | v => v
def Kr (t : TypeId) (len : Nat) (parts : List (Nat × AB)) : Option T6 :=
 match P.underlying t with
 | some (.slice e) =>
  match DD P e, (HA P e).bind AB.cells? with
  | some n, some z =>
   if len * n ≤ 16777216 ∧ z.length = n ∧ n ≠ 0 then
    match KA (fun i => some (i * n, n)) (FO z len) parts with
    | some cs => if (cs.map GY).all AB.one = true then some (fun n => .slice (some (n, 0)) len, .cells (some e) 2 (cs.map GY)) else none
    | none => none
   else none
  | _, _ => none
 | _ => none
def OA (op : BinOp) (k : IntKind) (a b : Int) : Option AB :=
 match op with
 | .add => some (.int k (k.wrap (a + b)))
 | .sub => some (.int k (k.wrap (a - b)))
 | .mul => some (.int k (k.wrap (a * b)))
 | .quo => if b = 0 then none else some (.int k (k.wrap (a.tdiv b)))
 | .rem => if b = 0 then none else some (.int k (a.tmod b))
 | .and => some (.int k (k.wrap (BitVec.ofInt k.bits a &&& BitVec.ofInt k.bits b).toNat))
 | .or => some (.int k (k.wrap (BitVec.ofInt k.bits a ||| BitVec.ofInt k.bits b).toNat))
 | .xor => some (.int k (k.wrap (BitVec.ofInt k.bits a ^^^ BitVec.ofInt k.bits b).toNat))
 | .andNot => some (.int k (k.wrap (BitVec.ofInt k.bits a &&& ~~~BitVec.ofInt k.bits b).toNat))
 | .eql => some (.bool (a == b))
 | .neq => some (.bool (a != b))
 | .lss => some (.bool (decide (a < b)))
 | .leq => some (.bool (decide (a ≤ b)))
 | .gtr => some (.bool (decide (a > b)))
 | .geq => some (.bool (decide (a ≥ b)))
 | _ => none
def OV (op : BinOp) (k : IntKind) (a b : Int) : Option AB :=
 if b < 0 then none else
 match op with
 | .shl => some (.int k (k.wrap (a * 2 ^ (min b.toNat k.bits))))
 | .shr => some (.int k (a.fdiv (2 ^ (min b.toNat k.bits))))
 | _ => none
def Pm (op : BinOp) (a b : List UInt8) : Option AB :=
 match op with
 | .add => if a.length + b.length ≤ 9223372036854775807 then some (.str (a ++ b)) else none
 | .eql => some (.bool (a == b))
 | .neq => some (.bool !(a == b))
 | .lss => some (.bool (Op.bytesLess a b))
 | .leq => some (.bool (Op.bytesLess a b || a == b))
 | .gtr => some (.bool !(Op.bytesLess a b || a == b))
 | .geq => some (.bool !(Op.bytesLess a b))
 | _ => none
def J6 (t : TypeId) (cs : List AB) (off : Nat) : Option AB :=
 match Jt P t with
 | some true => (DD P t).bind fun n => if off + n ≤ cs.length then some (.agg ((cs.drop off).take n)) else none
 | some false => cs[off]?
 | none => none
def eqFields (eq : TypeId → AB → AB → Option Bool) (xs ys : List AB) : List Field → Option Bool
 | [] => some true
 | f :: fs =>
  if f.name = "_" then eqFields eq xs ys fs else
  match J6 P f.type xs f.offset, J6 P f.type ys f.offset with
  | some a, some b =>
   match eq f.type a b with
   | some true => eqFields eq xs ys fs
   | some false => some false
   | none => none
  | _, _ => none
def MQ (eq : TypeId → AB → AB → Option Bool) (e : TypeId) (z : Nat) (xs ys : List AB) : Nat → Nat → Option Bool
 | 0, _ => some true
 | n + 1, i =>
  match J6 P e xs (i * z), J6 P e ys (i * z) with
  | some a, some b =>
   match eq e a b with
   | some true => MQ eq e z xs ys n (i + 1)
   | some false => some false
   | none => none
  | _, _ => none
def IG : Nat → TypeId → AB → AB → Option Bool
 | 0, _, _, _ => none
 | d + 1, t, x, y =>
  match P.underlying t, x, y with
  | some .bool, .bool a, .bool b => some (a == b)
  | some (.int _), .int k a, .int k' b => if k = k' then some (a == b) else none
  | some .string, .str a, .str b => some (a == b)
  | some (.pointer _), .ptr none, .ptr b => some b.isNone
  | some (.pointer _), .ptr (some _), .ptr none => some false
  | some (.pointer _), .BR _, .ptr none => some false
  | some (.map _ _), .map none, .map b => some b.isNone
  | some (.map _ _), .map (some _), .map none => some false
  | some (.func _ _ _), .nilFunc, .nilFunc => some true
  | some (.func _ _ _), .nilFunc, .func _ _ _ => some false
  | some (.func _ _ _), .func _ _ _, .nilFunc => some false
  | some (.struct fs), .agg xs, .agg ys => if P.stoodInHeld t = true then none else eqFields P (IG d) xs ys fs.toList
  | some (.array n e), .agg xs, .agg ys => (DD P e).bind fun z => MQ P (IG d) e z xs ys n 0
  | _, _, _ => none
def UW : AB → Bool
 | .bool _ | .ptr _ | .slice _ _ | .map _ | .nilFunc | .func _ _ _ | .HE _ _ | .BR _ => true
 | _ => false
def Rr (op : BinOp) (t : TypeId) (x y : AB) : Option AB :=
 match x, y with
 | .int k a, .int k' b =>
  match op with
  | .shl | .shr => OV op k a b
  | _ => if k = k' then OA op k a b else none
 | .str a, .str b => Pm op a b
 | .agg xs, .agg ys =>
  if P.eqGuardType P.depth t = true then none else
  match op with
  | .eql => (IG P 10000 t (.agg xs) (.agg ys)).map .bool
  | .neq => (IG P 10000 t (.agg xs) (.agg ys)).map fun b => .bool !b
  | _ => none
 | x, y =>
  if UW x = true then
   match op with
   | .eql => (IG P 10000 t x y).map .bool
   | .neq => (IG P 10000 t x y).map fun b => .bool !b
   | _ => none
  else none
def Vr : Operand → Bool
 | .const _ => true
 | _ => false
def XH (op : BinOp) (t : TypeId) (c : Bool) : Option AB :=
 match P.underlying t with
 | some (.interface _) => bif c then (match op with | .eql => some (.bool true) | .neq => some (.bool false) | _ => none) else none
 | _ => none
def Rl (op : BinOp) (t : TypeId) (c : Bool) (x y : AB) : Option AB :=
 match x, y with
 | .nilIface, .nilIface => XH P op t c
 | x, y => Rr P op t x y
def Xo (op : UnOp) (x : AB) : Option AB :=
 match op, x with
 | .neg, .int k n => OA .sub k 0 n
 | .xor, .int k n => OA .xor k (if k.signed then -1 else k.max) n
 | .not, .bool b => some (.bool !b)
 | _, _ => none
def bytesOf : List AB → Option (List UInt8)
 | [] => some []
 | .int .u8 n :: r => (bytesOf r).map (UInt8.ofNat n.toNat :: ·)
 | _ => none
def Tp (src dst : TypeId) (x : AB) : Option AB :=
 match P.underlying src, P.underlying dst, x with
 | some _, some (.int k), .int _ n => some (.int k (k.wrap n))
 | some _, some .string, .str s => some (.str s)
 | some _, some .string, .int _ n => some (.str (Utf8.encode n).data.toList)
 | _, _, _ => none
def Tb (src dst : TypeId) (x : AB) : Option T6 :=
 match P.underlying src, P.underlying dst, x with
 | some _, some (.slice e), .str s =>
  match P.underlying e, DD P e with
  | some (.int .u8), some 1 => if s.length ≤ 1099511627776 then some (fun n => .slice (some (n, 0)) s.length, .cells (some e) 2 (s.map fun b => .int .u8 b.toNat)) else none
  | _, _ => none
 | _, _, _ => none
def PT (ob : Option CY) (src dst : TypeId) (x : AB) : Option AB :=
 match P.underlying src, P.underlying dst, x with
 | some (.slice e), some .string, .slice r n =>
  match P.underlying e with
  | some (.int .u8) =>
   match r with
   | none => some (.str [])
   | some (_, o) => if n = 0 then some (.str []) else (DF ob o n).bind fun cs => (bytesOf cs).map .str
  | _ => none
 | some (.slice e), some .string, .HE n cs =>
  match P.underlying e with
  | some (.int .u8) => if cs.length = n then (bytesOf cs).map .str else none
  | _ => none
 | _, _, _ => none
def Jq (t : TypeId) (l c : AB) : Option T6 :=
 match P.underlying t, l, c with
 | some (.slice e), .int _ l, .int _ c =>
  match P.info? e with
  | some i =>
   match i.zero.map Uh with
   | some z =>
    match z.cells?.map (·.map GY) with
    | some zc =>
     if 0 ≤ l ∧ l ≤ c ∧ c ≤ 1099511627776 ∧ i.bytes * c ≤ 1099511627776 ∧ zc.length = i.size ∧ zc.all AB.one = true then
      some (fun n => .slice (some (n, 0)) l.toNat, .cells (some e) 2 (FO zc c.toNat))
     else none
    | none => none
   | none => none
  | none => none
 | _, _, _ => none
def E8 (n : Nat) (lo hi : Option AB) : Option (Nat × Nat) :=
 match hi with
 | some (.int _ u) =>
  if 0 ≤ u ∧ u ≤ n then
   match lo with
   | some (.int _ l) => if 0 ≤ l ∧ l ≤ u then some (l.toNat, u.toNat) else none
   | some _ => none
   | none => some (0, u.toNat)
  else none
 | some _ => none
 | none =>
  match lo with
  | some (.int _ l) => if 0 ≤ l ∧ l ≤ n then some (l.toNat, n) else none
  | some _ => none
  | none => some (0, n)
def QJ (t : TypeId) (x : AB) (lo hi : Option AB) : Option AB :=
 match P.underlying t, x with
 | some .string, .str s => (E8 s.length lo hi).map fun (l, u) => .str ((s.drop l).take (u - l))
 | _, _ => none
def RX (ob : Option CY) (t : TypeId) (x : AB) (lo hi : Option AB) : Option AB :=
 match P.underlying t, x with
 | some (.array n e), .ptr (some (id, o)) =>
  match ob with
  | some (.cells none _ _) => (DD P e).bind fun z => (E8 n lo hi).map fun (l, u) => .slice (some (id, o + l * z)) (u - l)
  | _ => none
 | some (.slice e), .slice none 0 => (DD P e).bind fun _ => (E8 0 lo hi).map fun _ => .slice none 0
 | some (.slice e), .HE n cs => (DD P e).bind fun z => if cs.length = n * z then (E8 n lo hi).map fun (l, u) => .HE (u - l) ((cs.drop (l * z)).take ((u - l) * z)) else none
 | some (.slice e), .slice (some (id, o)) n =>
  match ob, DD P e with
  | some (.cells none _ _), some z => (E8 n lo hi).map fun (l, u) => .slice (some (id, o + l * z)) (u - l)
  | some (.cells (some e') _ _), some z => if DD P e' = some z then (E8 n lo hi).map fun (l, u) => .slice (some (id, o + l * z)) (u - l) else none
  | _, _ => none
 | _, _ => none
def Ls (s : TypeId) (x : AB) (f : Nat) : Option AB :=
 match P.underlying s, x with
 | some (.struct fs), .ptr (some (id, o)) =>
  match fs[f]? with
  | some fd =>
   match DD P fd.type with
   | some 0 => none
   | some _ => some (.ptr (some (id, o + fd.offset)))
   | none => none
  | none => none
 | some (.struct fs), .JQ g o =>
  match fs[f]? with
  | some fd =>
   match DD P fd.type with
   | some 0 => none
   | some _ => some (.JQ g (o + fd.offset))
   | none => none
  | none => none
 | some (.struct fs), .BR cs =>
  match fs[f]? with
  | some fd =>
   match DD P fd.type with
   | some 0 => none
   | some _ => some (.BR (cs.drop fd.offset))
   | none => none
  | none => none
 | _, _ => none
def Rx (s : TypeId) (x : AB) (f : Nat) : Option AB :=
 match P.underlying s, x with
 | some (.struct fs), .agg cs =>
  match fs[f]? with
  | some fd => J6 P fd.type cs fd.offset
  | none => none
 | _, _ => none
def GX (t : TypeId) (x i : AB) : Option AB :=
 match P.underlying t, x, i with
 | some (.array n e), .ptr (some (id, o)), .int _ i => if 0 ≤ i ∧ i < n then (DD P e).map fun z => .ptr (some (id, o + i.toNat * z)) else none
 | some (.slice e), .slice (some (id, o)) n, .int _ i => if 0 ≤ i ∧ i < n then (DD P e).map fun z => .ptr (some (id, o + i.toNat * z)) else none
 | some (.array n e), .JQ g o, .int _ i => if 0 ≤ i ∧ i < n then (DD P e).map fun z => .JQ g (o + i.toNat * z) else none
 | some (.array n e), .BR cs, .int _ i => if 0 ≤ i ∧ i < n then (DD P e).map fun z => .BR (cs.drop (i.toNat * z)) else none
 | some (.slice e), .HE n cs, .int _ i => if 0 ≤ i ∧ i < n then (DD P e).bind fun z => if cs.length = n * z ∧ z ≠ 0 then some (.BR ((cs.drop (i.toNat * z)).take z)) else none else none
 | _, _, _ => none
def QN (t : TypeId) (x i : AB) : Option AB :=
 match P.underlying t, x, i with
 | some (.array n e), .agg cs, .int _ i => if 0 ≤ i ∧ i < n then (DD P e).bind fun z => J6 P e cs (i.toNat * z) else none
 | some .string, .str s, .int _ i => if 0 ≤ i then (s[i.toNat]?).map fun b => .int .u8 b.toNat else none
 | _, _, _ => none
def Dz (h : AJ) (z n : Nat) : AB → Option (List AB)
 | .slice (some (id, o)) _ => if n = 0 then some [] else DF (h.get id) o (n * z)
 | .slice none _ => if n = 0 then some [] else none
 | .str s => if z = 1 then some ((s.take n).map fun b => .int .u8 b.toNat) else none
 | .HE n' cs => if n ≤ n' ∧ cs.length = n' * z then some (cs.take (n * z)) else none
 | _ => none
def Oh : AB → Option Nat
 | .slice _ n => some n
 | .HE n _ => some n
 | .str s => some s.length
 | _ => none
def JJ : TypeDesc → Bool
 | .int _ => false
 | _ => true
def appendCore (g : Gd) (h : AJ) (e : TypeId) (i : TypeInfo) (r : Option (Nat × Nat)) (sl n : Nat) (x : AB) : Option (AB × AJ) :=
 if n = 0 then some (.slice r sl, h)
 else if i.size ≠ 0 ∧ sl + n ≤ 1099511627776 ∧ (sl + n) * i.bytes ≤ 1099511627776 ∧ i.zero.map (·.cells.size) = some i.size then
  match (Dz h i.size n x).map (·.map GY), Dz h i.size sl (.slice r sl) with
  | some new, some old =>
   if (old ++ new).all AB.one = true then
    match r with
    | none => some (.slice (some (h.size, 0)) (sl + n), h.push (.cells (some e) 2 (old ++ new)))
    | some (id, _) =>
     match h.get id with
     | some (.cells (some e') 2 _) =>
      if g.may id = true ∧ e' = e then some (.slice (some (h.size, 0)) (sl + n), (h.set id (.cells (some e') 0 [])).push (.cells (some e) 2 (old ++ new)))
      else none
     | _ => none
   else none
  | _, _ => none
 else none
def MV (g : Gd) (h : AJ) (ts : Array TypeId) (s x : AB) : Option (AB × AJ) :=
 match ts[0]?, ts[1]?, s, Oh x with
 | some st, some xt, .slice r sl, some n =>
  match P.underlying st, P.underlying xt with
  | some (.slice e), some d =>
   match P.info? e with
   | some i => if JJ d = true then appendCore g h e i r sl n x else none
   | none => none
  | _, _ => none
 | _, _, _, _ => none
def SP (g : Gd) (h : AJ) (ts : Array TypeId) (d x : AB) : Option (AB × AJ) :=
 match ts[0]?, d, Oh x with
 | some dt, .slice r dl, some sl =>
  match P.underlying dt with
  | some (.slice e) =>
   match DD P e with
   | some z =>
    match Dz h z (min sl dl) x, r with
    | some new, some (id, o) => if min sl dl = 0 then some (.int .i64 0, h) else (Db g h id o new).map fun h' => (.int .i64 (min sl dl : Nat), h')
    | some _, none => if min sl dl = 0 then some (.int .i64 0, h) else none
    | none, _ => none
   | none => none
  | _ => none
 | _, _, _ => none
def WR (ts : Array TypeId) (x : AB) : Option AB :=
 match ts[0]? with
 | none => none
 | some t =>
  match P.underlying t, x with
  | some .string, .str s => some (.int .i64 s.length)
  | some (.array n _), _ => some (.int .i64 n)
  | some (.slice _), .slice _ n => some (.int .i64 n)
  | some (.slice _), .HE n _ => some (.int .i64 n)
  | _, _ => none
def Tn (ob : Option CY) (ts : Array TypeId) (x : AB) : Option AB :=
 match ts[0]? with
 | none => none
 | some t =>
  match P.underlying t, x with
  | some (.map _ _), .map none => some (.int .i64 0)
  | some (.map _ _), .map (some _) =>
   match ob with
   | some (.map st es) => if st ≠ 0 then some (.int .i64 es.length) else none
   | _ => none
  | some (.chan _ _), .chan (some _) =>
   match ob with
   | some (.chan _ buf) => some (.int .i64 buf.length)
   | _ => none
  | _, _ => none
def LD (mx : Bool) : AB → List AB → Option AB
 | v, [] => some v
 | .int k a, .int k' b :: r => if k = k' then LD mx (.int k (if mx then (if b > a then b else a) else (if b < a then b else a))) r else none
 | _, _ => none
def DE (t : TypeId) (k : AB) : List (AB × AB) → Nat → Option (Option (Nat × AB))
 | [], _ => some none
 | (k', v) :: es, i =>
  match IG P 10000 t k k' with
  | some true => some (some (i, v))
  | some false => DE t k es (i + 1)
  | none => none
def FQ : Nat → TypeId → AB → Bool
 | 0, _, _ => false
 | d + 1, t, v =>
  match P.underlying t, v with
  | some (.int _), .int _ _ => true
  | some .string, .str _ => true
  | some .bool, .bool _ => true
  | some (.struct fs), .agg cs => fs.toList.all (fun f => f.name != "_" && (match J6 P f.type cs f.offset with | some x => FQ d f.type x | none => false))
  | some (.array n e), .agg cs => (match DD P e with | some z => (List.range n).all (fun i => match J6 P e cs (i * z) with | some x => FQ d e x | none => false) | none => false)
  | _, _ => false
def LF (ob : Option CY) (t : TypeId) (x k : AB) (ok : Bool) : Option AB :=
 match P.underlying t, x with
 | some (.map kt et), .map r =>
  if FQ P 20 kt k = true then
   match (match r with | none => some [] | some _ => match ob with | some (.map st es) => if st ≠ 0 then some es else none | _ => none) with
   | some es =>
    match DE P kt k es 0 with
    | some (some (_, v)) => some (if ok then .tuple [v, .bool true] else v)
    | some none => (HA P et).map fun z => if ok then .tuple [z, .bool false] else z
    | none => none
   | none => none
  else none
 | _, _ => none
def Nu : AB → AB → Bool
 | .int k a, .int k' b => decide (k = k') && a == b
 | .str a, .str b => a == b
 | .bool a, .bool b => a == b
 | _, _ => false
def La : AB → AB → Bool
 | .agg a, .agg b => a.length == b.length && (a.zip b).all fun p => Nu p.1 p.2
 | x, y => Nu x y
def Fl (g : Gd) (h : AJ) : AB → Option (AB × AJ)
 | .slice none 0 => some (.HE 0 [], h)
 | .slice (some (id, 0)) n =>
  bif Nat.beq n 0 then some (.HE 0 [], h) else
  match h.get id with
  | some (.cells gr 2 cs) => bif g.may id then some (.HE n cs, h.set id (.cells gr 0 cs)) else none
  | some (.cells _ 0 (c :: cs)) => some (.HE n (c :: cs), h)
  | _ => none
 | v => some (v, h)
def H9 (g : Gd) (h : AJ) (t : TypeId) (m k v : AB) : Option AJ :=
 match P.underlying t, m with
 | some (.map kt _), .map (some id) =>
  if FQ P 20 kt k = true ∧ g.may id = true then
   match h.get id with
   | some (.map 2 es) =>
    match DE P kt k es 0 with
    | some (some (i, _)) =>
     match es[i]? with
     | some (k', _) => if La k' k = true then some (h.set id (.map 2 (es.set i (k, v)))) else none
     | none => none
    | some none => some (h.set id (.map 2 (es ++ [(k, v)])))
    | none => none
   | _ => none
  else none
 | _, _ => none
def GN (g : Gd) (h : AJ) (t : TypeId) (m k v : AB) : Option AJ := (Fl g h v).bind fun r => H9 P g r.2 t m k r.1
def LK (g : Gd) (h : AJ) (ts : Array TypeId) (m k : AB) : Option AJ :=
 match ts[0]? with
 | none => none
 | some t =>
  match P.underlying t, m with
  | some (.map kt _), .map (some id) =>
   if FQ P 20 kt k = true ∧ g.may id = true then
    match h.get id with
    | some (.map 2 es) =>
     match DE P kt k es 0 with
     | some (some (i, _)) => some (h.set id (.map 2 (es.eraseIdx i)))
     | some none => some h
     | none => none
    | _ => none
   else none
  | _, _ => none
def BX : Op → Nat
 | .move _ | .assign _ | .pick .. | .build .. | .nilCheck _ | .binOp .. | .unOp .. | .makeFunc .. | .fieldAddr .. | .field .. | .indexAddr .. | .index .. | .extract .. => 0
 | .slice t .. => match P.underlying t with | some .string => 0 | _ => 1
 | .convert s d _ =>
  match P.underlying s, P.underlying d with
  | some (.slice _), some .string => 1
  | some (.slice _), some (.slice _) => 3
  | _, some (.slice _) => 2
  | _, _ => 0
 | .load .. | .lookup .. => 1
 | .alloc _ | .box .. | .buildSlice .. | .makeMap .. | .makeSlice .. | .range .. | .makeChan .. => 2
 | .call { callee := .builtin .len, argTypes := ts, .. } =>
  match ts[0]? with
  | some t => match P.underlying t with | some (.map _ _) => 1 | some (.chan _ _) => 1 | _ => 0
  | none => 0
 | .call { callee := .builtin .min, .. } | .call { callee := .builtin .max, .. } => 0
 | _ => 3
def Iz (fr : Fr) : Op → Option AB
 | .move x | .assign x => some (ev fr x)
 | .pick c a b =>
  match ev fr c with
  | .bool b' => some (bif b' then ev fr a else ev fr b)
  | _ => none
 | .build t parts => Ry P t (parts.toList.map fun (i, x) => (i, ev fr x))
 | .nilCheck x =>
  match ev fr x with
  | .ptr (some r) => some (.ptr (some r))
  | .JQ g o => some (.JQ g o)
  | .BR cs => some (.BR cs)
  | .func (.func f) a b => some (.func (.func f) a b)
  | _ => none
 | .binOp op t x y _ => Rl P op t (Vr x || Vr y) (ev fr x) (ev fr y)
 | .unOp op _ x => Xo op (ev fr x)
 | .convert s d x => Tp P s d (ev fr x)
 | .makeFunc fn first cap => some (.func fn (first.toList.map (ev fr)) (cap.toList.map (ev fr)))
 | .slice t x lo hi none => QJ P t (ev fr x) (lo.map (ev fr)) (hi.map (ev fr))
 | .fieldAddr s x f => Ls P s (ev fr x) f
 | .field s x f => Rx P s (ev fr x) f
 | .indexAddr t x i => GX P t (ev fr x) (ev fr i)
 | .index t x i => QN P t (ev fr x) (ev fr i)
 | .extract x i =>
  match ev fr x with
  | .tuple vs => vs[i]?
  | _ => none
 | .call { callee := .builtin b, args := as, argTypes := ts } =>
  match b, as.toList.map (ev fr) with
  | .len, [x] => WR P ts x
  | .min, x :: r => LD false x r
  | .max, x :: r => LD true x r
  | _, _ => none
 | _ => none
def FE : AB → Option Nat
 | .ptr (some (id, _)) => some id
 | .slice (some (id, _)) _ => some id
 | .map (some id) => some id
 | .chan (some id) => some id
 | _ => none
def Dw (fr : Fr) : Op → Option Nat
 | .load _ x => FE (ev fr x)
 | .slice _ x _ _ _ => FE (ev fr x)
 | .convert _ _ x => FE (ev fr x)
 | .lookup _ x _ _ => FE (ev fr x)
 | .call { args := as, .. } =>
  match as.toList with
  | [x] => FE (ev fr x)
  | _ => none
 | _ => none
def KK (G : Nat → Option (List AB)) (fr : Fr) (ob : Option CY) : Op → Option AB
 | .load t a =>
  match ev fr a with
  | .ptr (some (_, o)) => Gb P ob t o
  | .JQ g o => Gb P ((G g).map fun cs => .cells none 1 cs) t o
  | .BR cs => Gb P (some (.cells none 1 cs)) t 0
  | _ => none
 | .slice t x lo hi none => RX P ob t (ev fr x) (lo.map (ev fr)) (hi.map (ev fr))
 | .convert s d x => PT P ob s d (ev fr x)
 | .lookup t x k ok => LF P ob t (ev fr x) (ev fr k) ok
 | .call { callee := .builtin .len, args := as, argTypes := ts } =>
  match as.toList with
  | [x] => Tn P ob ts (ev fr x)
  | _ => none
 | _ => none
def Om (fr : Fr) : Op → Option T6
 | .alloc e => (HA P e).bind Nj
 | .box _ x => Nj (ev fr x)
 | .buildSlice t len parts => Kr P t len (parts.toList.map fun (i, x) => (i, ev fr x))
 | .convert s d x => Tb P s d (ev fr x)
 | .makeMap _ none => some (fun n => .map (some n), .map 2 [])
 | .makeSlice t l c => Jq P t (ev fr l) (ev fr c)
 | .makeChan t n =>
  match P.underlying t, ev fr n with
  | some (.chan _ e), .int _ n =>
   match P.info? e with
   | some i => if 0 ≤ n ∧ n ≤ 1099511627776 ∧ i.bytes * n ≤ 1099511627776 then some (fun k => .chan (some k), .chan n.toNat []) else none
   | none => none
  | _, _ => none
 | .range t x =>
  match P.underlying t, ev fr x with
  | some .string, .str s => some (fun n => .ptr (some (n, 0)), .iter s 0)
  | _, _ => none
 | _ => none
def Sq (g : Gd) (h : AJ) (s d : TypeId) (x : AB) : Option (AB × AJ) :=
 match P.underlying s, P.underlying d, x with
 | some (.slice _), some (.slice e), .slice (some (id, o)) n =>
  match P.underlying e, h.get id with
  | some (.int .u8), some (.cells gr 2 cs) => bif Nat.beq s d && (g.may id && !(Nat.beq n 0)) then some (.slice (some (id, o)) n, h.set id (.cells gr 2 cs)) else none
  | _, _ => none
 | _, _, _ => none
def KJ (g : Gd) (h : AJ) (fr : Fr) : Op → Option (AB × AJ)
 | .convert s d x => Sq P g h s d (ev fr x)
 | .store t a x =>
  match ev fr a with
  | .ptr (some (id, o)) => (K3 P g h t id o (ev fr x)).map (.tuple [], ·)
  | _ => none
 | .mapUpdate t m k v | .insert t m k v => (GN P g h t (ev fr m) (ev fr k) (ev fr v)).map (.tuple [], ·)
 | .next it true =>
  match ev fr it with
  | .ptr (some (id, 0)) =>
   match h.get id with
   | some (.iter s pos) =>
    if g.may id = true then
     if pos < s.length then
      some (.tuple [.bool true, .int .i64 pos, .int .i32 (Utf8.decode ⟨⟨s⟩⟩ pos).1], h.set id (.iter s (pos + (Utf8.decode ⟨⟨s⟩⟩ pos).2)))
     else some (.tuple [.bool false], h)
    else none
   | _ => none
  | _ => none
 | .call { callee := .builtin b, args := as, argTypes := ts } =>
  match b, as.toList.map (ev fr) with
  | .append, [s, x] => MV P g h ts s x
  | .copy, [d, x] => SP P g h ts d x
  | .delete, [m, k] => (LK P g h ts m k).map (.tuple [], ·)
  | _, _ => none
 | _ => none
def Iw (G : Nat → Option (List AB)) (g : Gd) (h : AJ) (fr : Fr) (op : Op) : Option (AB × AJ) :=
 match BX P op with
 | 0 => (Iz P fr op).map (·, h)
 | 1 =>
  match Dw fr op with
  | none => (KK P G fr none op).map (·, h)
  | some id =>
   match h.get id with
   | some ob => (KK P G fr (some ob) op).map (·, h)
   | none => none
 | 2 => (Om P fr op).map fun x => (x.1 h.size, h.push x.2)
 | _ => KJ P g h fr op
end
structure HS where
 P : Program
 kind : Nat → Nat
 K6 : Nat → Nat → List (Nat × List Nat)
 ext : Nat → Gd → AJ → List AB → Option (AB × AJ)
 D9 : Nat → Option (List AB) := fun _ => none
 T2 : FuncId → Code → Code → Bool := fun _ _ _ => false
 still : FuncId → List Bool := fun _ => []
inductive DN where
 | normal
 | exit (id : Nat)
 | ret
structure Self where
 call : Gd → AJ → FuncId → List AB → Option (AB × AJ)
 loop : Gd → FuncId → Code → Fr → AJ → Option (DN × Fr × AJ)
 round : Gd → AJ → Nat → List AB → Option (AB × AJ)
section
variable (C : HS) (S : Self)
def Bs (g : Gd) (h : AJ) (fr : Fr) (op : Op) : Option (AB × AJ) :=
 match op with
 | .call { callee := .value x, args := as, .. } =>
  match ev fr x with
  | .func (.func f) first cap => S.call g h f (first ++ (as.toList.map (ev fr) ++ cap))
  | .M4 l => S.round g h l (as.toList.map (ev fr))
  | _ => none
 | op => Iw C.P C.D9 g h fr op
def C7 (ops : Array Oper) (fr : Fr) (o : Oper) : Option Bool :=
 match o.guard with
 | none => some true
 | some (j, want) =>
  match (ops[j]?).bind (·.dst) with
  | none => some false
  | some d =>
   match nth fr d with
   | .bool b => some (b == want)
   | .undef => none
   | _ => some false
def GQ (g : Gd) (ops : Array Oper) : List Oper → Fr → AJ → Option (Fr × AJ)
 | [], fr, h => some (fr, h)
 | o :: rest, fr, h =>
  match C7 ops fr o with
  | some true =>
   match Bs C S g h fr o.op with
   | some (v, h') => GQ g ops rest (put fr o.dst v) h'
   | none => none
  | some false => GQ g ops rest (put fr o.dst (.tuple [])) h
  | none => none
def Hs (tch : List (Nat × Nat)) (U : List Nat) : List Nat := tch.filterMap fun (i, id) => bif U.any (Nat.beq i) then some id else none
def GO (P : Program) (h : AJ) (fr : Fr) (i : Nat) (op : Op) (tch : List (Nat × Nat)) : List (Nat × Nat) :=
 match BX P op with
 | 1 => match Dw fr op with | some id => (i, id) :: tch | none => tch
 | 2 => (i, h.size) :: tch
 | _ => tch
def UU : AB → AB → Bool
 | .ptr (some (a, b)), .ptr (some (c, d)) => Nat.beq a c && Nat.beq b d
 | .int k a, .int k' b => decide (k = k') && decide (a = b)
 | .bool a, .bool b => a == b
 | .str a, .str b => decide (a = b)
 | .HE 0 [], .HE 0 [] => true
 | _, _ => false
def VW (ops : Array Oper) (fr : Fr) (h : AJ) (i : Nat) : Bool :=
 match ops[i]? with
 | some o =>
  match C7 ops fr o with
  | some false => true
  | some true =>
   match o.dst, Dw fr o.op with
   | some d, some id =>
    Nat.blt d fr.length && (match h.get id with
     | some ob => (match KK C.P C.D9 fr (some ob) o.op with | some v => UU v (nth fr d) | none => false)
     | none => false)
   | _, _ => false
  | none => false
 | none => false
def Nc (ops : Array Oper) (U : List Nat) (fr : Fr) (h : AJ) : Bool := U.all fun u => Nat.blt u 10000 || VW C ops fr h (u - 10000)
def C6 (g : Gd) (ops : Array Oper) : List (Nat × List Nat) → List (Nat × Nat) → Fr → AJ → Option (Fr × AJ)
 | [], _, fr, h => some (fr, h)
 | (i, U) :: rest, tch, fr, h =>
  match ops[i]? with
  | none => none
  | some o =>
   match C7 ops fr o with
   | some true =>
    match Bs C S ⟨g.floor, Hs tch U ++ g.Bo⟩ h fr o.op with
    | some (v, h') => bif Nc C ops U (put fr o.dst v) h' then C6 g ops rest (GO C.P h fr i o.op tch) (put fr o.dst v) h' else none
    | none => none
   | some false => C6 g ops rest tch (put fr o.dst (.tuple [])) h
   | none => none
def Mr (P : Program) (f : FuncId) : Bool :=
 match P.funcs[f]? with
 | some fn => fn.body.isSome && !(fn.name == "runtime.NumGoroutine")
 | none => false
def Bn (f : FuncId) (g : Gd) : Code → Fr → AJ → Option (DN × Fr × AJ)
 | .skip, fr, h => some (.normal, fr, h)
 | .label _, fr, h => some (.normal, fr, h)
 | .region id ops draw, fr, h =>
  match (bif draw then C6 C S g ops (C.K6 f id) [] fr h else GQ C S g ops ops.toList fr h) with
  | some (fr', h') => some (.normal, fr', h')
  | none => none
 | .seq a b, fr, h =>
  match Bn f g a fr h with
  | some (.normal, fr', h') => Bn f g b fr' h'
  | r => r
 | .cond c a b, fr, h =>
  match ev fr c with
  | .bool true => Bn f g a fr h
  | .bool false => Bn f g b fr h
  | _ => none
 | .block id c, fr, h =>
  match Bn f g c fr h with
  | some (.exit i, fr', h') => bif Nat.beq i id then some (.normal, fr', h') else some (.exit i, fr', h')
  | r => r
 | .loop c, fr, h =>
  match Bn f g c fr h with
  | some (.normal, fr', h') => S.loop g f c fr' h'
  | r => r
 | .scope c, fr, h => Bn f g c fr h
 | .exit id, fr, h => some (.exit id, fr, h)
 | .ret, fr, h => some (.ret, fr, h)
 | .rangeFunc x ps a b, fr, h =>
  match ev fr x with
  | .func (.func f') first cap =>
   bif !Mr C.P f' then none else
   match S.call g (h.push (.loop 0 none f fr ps.toList a b)) f' (first ++ ([.M4 h.size] ++ cap)) with
   | some (_, h2) =>
    match h2.get h.size with
    | some (.loop st pend f2 fr2 ps2 a2 b2) =>
     bif Nat.beq st 1 || !g.may h.size then none else
     match pend with
     | none => some (.normal, fr, h2.set h.size (.loop 3 pend f2 fr2 ps2 a2 b2))
     | some .ret => some (.ret, fr, h2.set h.size (.loop 3 pend f2 fr2 ps2 a2 b2))
     | some (.exit i) => some (.exit i, fr, h2.set h.size (.loop 3 pend f2 fr2 ps2 a2 b2))
     | _ => none
    | _ => none
   | none => none
  | _ => none
 | _, _, _ => none
def KZ : List Tmp → List AB → Fr → Fr
 | p :: ps, v :: vs, fr => KZ ps vs (fr.set p v)
 | _, _, fr => fr
def XN : Option Code → Nat
 | none => 0
 | some _ => 2
def Ge (g : Gd) (l : Nat) (j : Option Code) (h : AJ) : Option (AB × AJ) :=
 match h.get l with
 | some (.loop _ _ f fr ps a b) => bif g.may l then some (.bool j.isNone, h.set l (.loop (XN j) j f fr ps a b)) else none
 | _ => none
def Kh (g : Gd) (h : AJ) (l : Nat) (args : List AB) : Option (AB × AJ) :=
 match h.get l with
 | some (.loop 0 _ f fr ps a b) =>
  bif Nat.beq args.length ps.length && (g.may l && C.T2 f a b) then
   match Bn C S f g a (KZ ps args fr) h with
   | some (.normal, fr1, h1) =>
    match h1.get l with
    | some (.loop 0 pend f2 fr2 ps2 a2 b2) =>
     match Bn C S f g b fr1 (h1.set l (.loop 1 pend f2 fr2 ps2 a2 b2)) with
     | some (.normal, _, h3) => Ge g l none h3
     | some (.ret, _, h3) => Ge g l (some .ret) h3
     | some (.exit i, _, h3) => Ge g l (some (.exit i)) h3
     | none => none
    | _ => none
   | _ => none
  else none
 | _ => none
def Tu (P : Program) (g : Gd) (h : AJ) (fr : Fr) : Op → Option (AB × AJ)
 | .select cases blocking =>
  match cases.toList, blocking with
  | [c], false =>
   match HA P c.elem with
   | some z =>
    match ev fr c.chan with
    | .chan (some id) =>
     match h.get id with
     | some (.chan cap buf) =>
      match c.send with
      | some x =>
       bif Nat.ble cap buf.length then some (.tuple [.int .i64 (-1), .bool false], h)
       else bif g.may id then some (.tuple [.int .i64 0, .bool false], h.set id (.chan cap (buf ++ [ev fr x])))
       else none
      | none =>
       match buf with
       | v :: rest => bif g.may id then some (.tuple [.int .i64 0, .bool true, v], h.set id (.chan cap rest)) else none
       | [] => some (.tuple [.int .i64 (-1), .bool false, z], h)
     | _ => none
    | _ => none
   | none => none
  | _, _ => none
 | _ => none
def K9 : Code → Bool
 | .region _ ops draw => !draw && (match ops[0]? with | some o => (match o.op with | .select _ _ => o.guard.isNone | _ => false) | none => false)
 | _ => false
def JL (g : Gd) : Code → Fr → AJ → Option (DN × Fr × AJ)
 | .region _ ops _, fr, h =>
  match ops.toList with
  | o :: rest =>
   match Tu C.P g h fr o.op with
   | some (v, h') =>
    match GQ C S g ops rest (put fr o.dst v) h' with
    | some (fr', h') => some (.normal, fr', h')
    | none => none
   | none => none
  | [] => none
 | _, _, _ => none
def JB (f : FuncId) (g : Gd) : Code → Fr → AJ → Option (DN × Fr × AJ)
 | .seq a b, fr, h =>
  match JB f g a fr h with
  | some (.normal, fr', h') => JB f g b fr' h'
  | r => r
 | c, fr, h => bif K9 c then JL C S g c fr h else Bn C S f g c fr h
def HR (P : Program) (fr : Fr) (h : AJ) : ResultVar → Option AB
 | .tmp t => some (nth fr t)
 | .cell a t =>
  match nth fr a with
  | .ptr (some (id, o)) => Gb P (h.get id) t o
  | _ => none
def GC (P : Program) (fn : Func) (fr : Fr) (h : AJ) : Option AB :=
 match fn.results.toList.mapM (HR P fr h) with
 | some [v] => some v
 | some vs => some (.tuple vs)
 | none => none
def Fp : AB → Bool
 | .bool _ | .int _ _ | .str _ | .ptr none | .slice none _ | .map none | .chan none | .nilFunc | .nilIface => true
 | _ => false
def Ij : AB → Bool
 | .agg cs => cs.all Fp
 | v => Fp v
def MW : AB → Bool
 | .tuple vs => vs.all Ij
 | v => Ij v
def Il (g : Gd) (h : AJ) (f : FuncId) (args : List AB) : Option (AB × AJ) :=
 match C.P.funcs[f]? with
 | none => none
 | some fn =>
  match fn.body with
  | none => none
  | some c =>
   match Bn C S f g c (args ++ List.replicate (fn.ntmps - args.length) (.tuple [])) h with
   | some (.normal, fr, h') => (GC C.P fn fr h').map (·, h')
   | some (.ret, fr, h') => (GC C.P fn fr h').map (·, h')
   | _ => none
def PK (g : Gd) (h : AJ) (f : FuncId) (args : List AB) : Option (AB × AJ) :=
 match C.P.funcs[f]? with
 | none => none
 | some fn =>
  match fn.body with
  | none => none
  | some c =>
   match JB C S f g c (args ++ List.replicate (fn.ntmps - args.length) (.tuple [])) h with
   | some (.normal, fr, h') => (GC C.P fn fr h').map (·, h')
   | some (.ret, fr, h') => (GC C.P fn fr h').map (·, h')
   | _ => none
def Ih (f : AJ → AB → Option (AB × AJ)) : List AB → AJ → Option (List AB × AJ)
 | [], h => some ([], h)
 | v :: vs, h =>
  match f h v with
  | some (v', h1) => (Ih f vs h1).map fun r => (v' :: r.1, r.2)
  | none => none
def Mx (g : Gd) (h : AJ) : AB → Option (AB × AJ)
 | .agg cs => (Ih (Fl g) cs h).map fun r => (.agg r.1, r.2)
 | v => Fl g h v
def Oi (g : Gd) (h : AJ) : AB → Option (AB × AJ)
 | .tuple vs => (Ih (Mx g) vs h).map fun r => (.tuple r.1, r.2)
 | v => Mx g h v
def KU (g : Gd) (h : AJ) : AB → Option (AB × AJ)
 | .ptr (some (id, 0)) =>
  match h.get id with
  | some (.cells none 2 cs) => bif g.may id then (Ih (Fl g) cs (h.set id (.cells none 0 cs))).map fun r => (.BR r.1, r.2) else none
  | _ => none
 | v => Mx g h v
def Qy (g : Gd) (h : AJ) : AB → Option (AB × AJ)
 | .tuple vs => (Ih (KU g) vs h).map fun r => (.tuple r.1, r.2)
 | v => KU g h v
def UQ : AB → AB
 | .agg cs => .agg (cs.map GY)
 | v => GY v
def Ba : List Bool → List AB → List AB
 | true :: bs, v :: vs => UQ v :: Ba bs vs
 | false :: bs, v :: vs => v :: Ba bs vs
 | _, vs => vs
def H0 (g : Gd) (h : AJ) (f : FuncId) (args : List AB) : Option (AB × AJ) :=
 match C.kind f with
 | 1 => Il C S g h f (Ba (C.still f) args)
 | 2 =>
  match Il C S ⟨h.size, []⟩ h f args with
  | some (v, _) => bif MW v then some (v, h) else none
  | none => none
 | 3 => C.ext f g h args
 | 4 =>
  bif args.all Ij then
   match Il C S ⟨0, []⟩ ⟨0, .leaf⟩ f args with
   | some (v, _) => bif MW v then some (v, h) else none
   | none => none
  else none
 | 7 =>
  match Il C S g h f (Ba (C.still f) args) with
  | some (v, h') => Oi g h' v
  | none => none
 | 8 => PK C S g h f (Ba (C.still f) args)
 | 9 =>
  match Il C S g h f (Ba (C.still f) args) with
  | some (v, h') => Qy g h' v
  | none => none
 | _ => none
end
def Da (C : HS) : Nat → Self
 | 0 => ⟨fun _ _ _ _ => none, fun _ _ _ _ _ => none, fun _ _ _ _ => none⟩
 | n + 1 => ⟨H0 C (Da C n), fun g f c => Bn C (Da C n) f g (.loop c), Kh C (Da C n)⟩
def Ww (C : HS) (n : Nat) (g : Gd) (h : AJ) (f : FuncId) (args : List AB) : Option (AB × AJ) := (Da C n).call g h f args
end Go.Av
