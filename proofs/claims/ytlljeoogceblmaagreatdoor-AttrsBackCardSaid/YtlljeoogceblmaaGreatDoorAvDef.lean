/-
 A part.
-/
import Derived.Calls
namespace Go.Av
inductive AA where
 | undef
 | bool (b : Bool)
 | int (k : IntKind) (n : Int)
 | str (s : List UInt8)
 | ptr (r : Option (Nat × Nat))
 | H9 (g o : Nat)
 | slice (r : Option (Nat × Nat)) (len : Nat)
 | map (r : Option Nat)
 | chan (r : Option Nat)
 | func (fn : Fn) (first captured : List AA)
 | nilFunc
 | iface (t : TypeId) (v : AA)
 | nilIface
 | agg (cs : List AA)
 | tuple (vs : List AA)
 | Gg (n : Nat) (cs : List AA)
 | AR (cs : List AA)
 | Ur (l : Nat)
 deriving Inhabited
inductive BY where
 | cells (grow : Option TypeId) (st : Nat) (cs : List AA)
 | map (st : Nat) (es : List (AA × AA))
 | iter (s : List UInt8) (pos : Nat)
 | loop (st : Nat) (pend : Option Code) (f : FuncId) (fr : List AA) (ps : List Tmp) (a b : Code)
 | chan (cap : Nat) (buf : List AA)
 deriving Inhabited
inductive Tr (α : Type) where
 | leaf
 | node (l : Tr α) (v : Option α) (r : Tr α)
def Tr.get {α : Type} : Tr α → Nat → Option α
 | .leaf, _ => none
 | .node l v r, i => bif Nat.beq i 0 then v else bif Nat.beq (i % 2) 1 then l.get (i / 2) else r.get (i / 2 - 1)
def Tr.set {α : Type} : Nat → Tr α → Nat → α → Tr α
 | 0, t, _, _ => t
 | f + 1, .leaf, i, x => bif Nat.beq i 0 then .node .leaf (some x) .leaf else bif Nat.beq (i % 2) 1 then .node (Tr.set f .leaf (i / 2) x) none .leaf else .node .leaf none (Tr.set f .leaf (i / 2 - 1) x)
 | f + 1, .node l v r, i, x => bif Nat.beq i 0 then .node l (some x) r else bif Nat.beq (i % 2) 1 then .node (Tr.set f l (i / 2) x) v r else .node l v (Tr.set f r (i / 2 - 1) x)
structure AD where
 size : Nat
 tr : Tr BY
def AD.get (h : AD) (i : Nat) : Option BY := bif Nat.blt i h.size then h.tr.get i else none
def AD.set (h : AD) (i : Nat) (o : BY) : AD := ⟨h.size, Tr.set (i + 1) h.tr i o⟩
def AD.push (h : AD) (o : BY) : AD := ⟨h.size + 1, Tr.set (h.size + 1) h.tr h.size o⟩
structure Gd where
 floor : Nat
 Cl : List Nat
def Gd.may (g : Gd) (id : Nat) : Bool := Nat.ble g.floor id && !(g.Cl.any (Nat.beq id))
abbrev Fr := List AA
def nth : List AA → Nat → AA
 | [], _ => .tuple []
 | a :: _, 0 => a
 | _ :: l, i + 1 => nth l i
def put (fr : Fr) (dst : Option Tmp) (v : AA) : Fr :=
 match dst with
 | some d => fr.set d v
 | none => fr
def AA.one : AA → Bool
 | .undef | .agg _ | .tuple _ => false
 | _ => true
def AA.cells? : AA → Option (List AA)
 | .undef | .tuple _ => none
 | .agg cs => some cs
 | v => some [v]
def MD : Value → AA
 | .bool b => .bool b
 | .int k n => .int k n
 | .string s => .str s.data.toList
 | .pointer none => .ptr none
 | .slice none 0 0 => .slice none 0
 | .map none => .map none
 | .chan none => .chan none
 | .nilFunc => .nilFunc
 | .nilIface => .nilIface
 | _ => .undef
def Wp : Value → AA
 | .agg cs => .agg (cs.toList.map MD)
 | .tuple vs => .tuple (vs.toList.map MD)
 | v => MD v
def ev (fr : Fr) : Operand → AA
 | .tmp t => nth fr t
 | .const v => Wp v
 | .global g => .H9 g 0
 | .func f => .func (.func f) [] []
def DT (cs : List AA) (o : Nat) (new : List AA) : List AA := cs.take o ++ (new ++ cs.drop (o + new.length))
section
variable (P : Program)
def Bq (t : TypeId) : Option Nat := (P.info? t).map (·.size)
def Hw (t : TypeId) : Option Bool :=
 match P.underlying t with
 | some (.struct _) | some (.array _ _) => some true
 | some _ => some false
 | none => none
def Bx (ob : Option BY) (o n : Nat) : Option (List AA) :=
 match ob with
 | some (.cells _ st cs) => if st ≠ 0 ∧ o + n ≤ cs.length then some ((cs.drop o).take n) else none
 | _ => none
def Fw (ob : Option BY) (t : TypeId) (o : Nat) : Option AA :=
 match Hw P t with
 | some true => (Bq P t).bind fun n => (Bx ob o n).map .agg
 | some false =>
  match Bx ob o 1 with
  | some [v] => some v
  | _ => none
 | none => none
def EV : AA → AA
 | .slice none 0 => .Gg 0 []
 | v => v
def Kw : Option TypeId → List AA → List AA
 | none, l => l
 | some _, l => l.map EV
def CA (g : Gd) (h : AD) (id o : Nat) (new : List AA) : Option AD :=
 match h.get id with
 | some (.cells gr 2 cs) => if g.may id = true ∧ o + new.length ≤ cs.length ∧ new.all AA.one = true then some (h.set id (.cells gr 2 (DT cs o (Kw gr new)))) else none
 | _ => none
def Jk (g : Gd) (h : AD) (t : TypeId) (id o : Nat) (v : AA) : Option AD :=
 match v.cells?, Bq P t with
 | some new, some n => if new.length = n then CA g h id o new else none
 | _, _ => none
abbrev Vc := (Nat → AA) × BY
def NO (v : AA) : Option Vc :=
 match v.cells? with
 | some cs => if cs.all AA.one = true then some (fun n => .ptr (some (n, 0)), .cells none 2 cs) else none
 | none => none
def Ga (t : TypeId) : Option AA :=
 match P.info? t with
 | some i => i.zero.map Wp
 | none => none
def JD (place : Nat → Option (Nat × Nat)) (cells : List AA) : List (Nat × AA) → Option (List AA)
 | [] => some cells
 | (i, v) :: rest =>
  match place i, v.cells? with
  | some (off, size), some new => if new.length = size ∧ off + size ≤ cells.length then JD place (DT cells off new) rest else none
  | _, _ => none
def P9 (fs : List Field) : Option (List (Nat × Nat)) := fs.mapM fun f => (P.info? f.type).map fun i => (f.offset, i.size)
def St (t : TypeId) (parts : List (Nat × AA)) : Option AA :=
 match P.underlying t, (Ga P t).bind AA.cells? with
 | some (.array _ e), some z => (Bq P e).bind fun n => (JD (fun i => some (i * n, n)) z parts).map .agg
 | some (.struct fs), some z => (P9 P fs.toList).bind fun ps => (JD (ps[·]?) z parts).map .agg
 | _, _ => none
def D9 (z : List AA) : Nat → List AA
 | 0 => []
 | n + 1 => z ++ D9 z n
def Jz (t : TypeId) (len : Nat) (parts : List (Nat × AA)) : Option Vc :=
 match P.underlying t with
 | some (.slice e) =>
  match Bq P e, (Ga P e).bind AA.cells? with
  | some n, some z =>
   if len * n ≤ 16777216 ∧ z.length = n ∧ n ≠ 0 then
    match JD (fun i => some (i * n, n)) (D9 z len) parts with
    | some cs => if (cs.map EV).all AA.one = true then some (fun n => .slice (some (n, 0)) len, .cells (some e) 2 (cs.map EV)) else none
    | none => none
   else none
  | _, _ => none
 | _ => none
def No (op : BinOp) (k : IntKind) (a b : Int) : Option AA :=
 match op with
 | .add => some (.int k (k.wrap (a + b)))
 | .sub => some (.int k (k.wrap (a - b)))
 | .mul => some (.int k (k.wrap (a * b)))
 | .quo => if b = 0 then none else some (.int k (k.wrap (a.tdiv b)))
 | .rem => if b = 0 then none else some (.int k (a.tmod b))
 | .and => some (.int k (k.wrap (BitVec.ofInt k.bits a &&& BitVec.ofInt k.bits b).toNat))
 | .or => some (.int k (k.wrap (BitVec.ofInt k.bits a ||| BitVec.ofInt k.bits b).toNat))
 | .xor => some (.int k (k.wrap (BitVec.ofInt k.bits a ^^^ BitVec.ofInt k.bits b).toNat))
 | .andNot => some (.int k (k.wrap (BitVec.ofInt k.bits a &&& ~~~BitVec.ofInt k.bits b).toNat))
 | .eql => some (.bool (a == b))
 | .neq => some (.bool (a != b))
 | .lss => some (.bool (decide (a < b)))
 | .leq => some (.bool (decide (a ≤ b)))
 | .gtr => some (.bool (decide (a > b)))
 | .geq => some (.bool (decide (a ≥ b)))
 | _ => none
def QI (op : BinOp) (k : IntKind) (a b : Int) : Option AA :=
 if b < 0 then none else
 match op with
 | .shl => some (.int k (k.wrap (a * 2 ^ (min b.toNat k.bits))))
 | .shr => some (.int k (a.fdiv (2 ^ (min b.toNat k.bits))))
 | _ => none
def QZ (op : BinOp) (a b : List UInt8) : Option AA :=
 match op with
 | .add => if a.length + b.length ≤ 9223372036854775807 then some (.str (a ++ b)) else none
 | .eql => some (.bool (a == b))
 | .neq => some (.bool !(a == b))
 | .lss => some (.bool (Op.bytesLess a b))
 | .leq => some (.bool (Op.bytesLess a b || a == b))
 | .gtr => some (.bool !(Op.bytesLess a b || a == b))
 | .geq => some (.bool !(Op.bytesLess a b))
 | _ => none
def Dp (t : TypeId) (cs : List AA) (off : Nat) : Option AA :=
 match Hw P t with
 | some true => (Bq P t).bind fun n => if off + n ≤ cs.length then some (.agg ((cs.drop off).take n)) else none
 | some false => cs[off]?
 | none => none
def eqFields (eq : TypeId → AA → AA → Option Bool) (xs ys : List AA) : List Field → Option Bool
 | [] => some true
 | f :: fs =>
  if f.name = "_" then eqFields eq xs ys fs else
  match Dp P f.type xs f.offset, Dp P f.type ys f.offset with
  | some a, some b =>
   match eq f.type a b with
   | some true => eqFields eq xs ys fs
   | some false => some false
   | none => none
  | _, _ => none
def G0 (eq : TypeId → AA → AA → Option Bool) (e : TypeId) (z : Nat) (xs ys : List AA) : Nat → Nat → Option Bool
 | 0, _ => some true
 | n + 1, i =>
  match Dp P e xs (i * z), Dp P e ys (i * z) with
  | some a, some b =>
   match eq e a b with
   | some true => G0 eq e z xs ys n (i + 1)
   | some false => some false
   | none => none
  | _, _ => none
def Fb : Nat → TypeId → AA → AA → Option Bool
 | 0, _, _, _ => none
 | d + 1, t, x, y =>
  match P.underlying t, x, y with
  | some .bool, .bool a, .bool b => some (a == b)
  | some (.int _), .int k a, .int k' b => if k = k' then some (a == b) else none
  | some .string, .str a, .str b => some (a == b)
  | some (.pointer _), .ptr none, .ptr b => some b.isNone
  | some (.pointer _), .ptr (some _), .ptr none => some false
  | some (.pointer _), .AR _, .ptr none => some false
  | some (.map _ _), .map none, .map b => some b.isNone
  | some (.map _ _), .map (some _), .map none => some false
  | some (.func _ _ _), .nilFunc, .nilFunc => some true
  | some (.func _ _ _), .nilFunc, .func _ _ _ => some false
  | some (.func _ _ _), .func _ _ _, .nilFunc => some false
  | some (.struct fs), .agg xs, .agg ys => if P.stoodInHeld t = true then none else eqFields P (Fb d) xs ys fs.toList
  | some (.array n e), .agg xs, .agg ys => (Bq P e).bind fun z => G0 P (Fb d) e z xs ys n 0
  | _, _, _ => none
def WU : AA → Bool
 | .bool _ | .ptr _ | .slice _ _ | .map _ | .nilFunc | .func _ _ _ | .Gg _ _ | .AR _ => true
 | _ => false
def SH (op : BinOp) (t : TypeId) (x y : AA) : Option AA :=
 match x, y with
 | .int k a, .int k' b =>
  match op with
  | .shl | .shr => QI op k a b
  | _ => if k = k' then No op k a b else none
 | .str a, .str b => QZ op a b
 | .agg xs, .agg ys =>
  if P.eqGuardType P.depth t = true then none else
  match op with
  | .eql => (Fb P 10000 t (.agg xs) (.agg ys)).map .bool
  | .neq => (Fb P 10000 t (.agg xs) (.agg ys)).map fun b => .bool !b
  | _ => none
 | x, y =>
  if WU x = true then
   match op with
   | .eql => (Fb P 10000 t x y).map .bool
   | .neq => (Fb P 10000 t x y).map fun b => .bool !b
   | _ => none
  else none
def Y1 : Operand → Bool
 | .const _ => true
 | _ => false
def Zz (op : BinOp) (t : TypeId) (c : Bool) : Option AA :=
 match P.underlying t with
 | some (.interface _) => bif c then (match op with | .eql => some (.bool true) | .neq => some (.bool false) | _ => none) else none
 | _ => none
def Sa (op : BinOp) (t : TypeId) (c : Bool) (x y : AA) : Option AA :=
 match x, y with
 | .nilIface, .nilIface => Zz P op t c
 | x, y => SH P op t x y
def bA (op : UnOp) (x : AA) : Option AA :=
 match op, x with
 | .neg, .int k n => No .sub k 0 n
 | .xor, .int k n => No .xor k (if k.signed then -1 else k.max) n
 | .not, .bool b => some (.bool !b)
 | _, _ => none
def bytesOf : List AA → Option (List UInt8)
 | [] => some []
 | .int .u8 n :: r => (bytesOf r).map (UInt8.ofNat n.toNat :: ·)
 | _ => none
def Vp (src dst : TypeId) (x : AA) : Option AA :=
 match P.underlying src, P.underlying dst, x with
 | some _, some (.int k), .int _ n => some (.int k (k.wrap n))
 | some _, some .string, .str s => some (.str s)
 | some _, some .string, .int _ n => some (.str (Utf8.encode n).data.toList)
 | _, _, _ => none
def WG (src dst : TypeId) (x : AA) : Option Vc :=
 match P.underlying src, P.underlying dst, x with
 | some _, some (.slice e), .str s =>
  match P.underlying e, Bq P e with
  | some (.int .u8), some 1 => if s.length ≤ 1099511627776 then some (fun n => .slice (some (n, 0)) s.length, .cells (some e) 2 (s.map fun b => .int .u8 b.toNat)) else none
  | _, _ => none
 | _, _, _ => none
def PA (ob : Option BY) (src dst : TypeId) (x : AA) : Option AA :=
 match P.underlying src, P.underlying dst, x with
 | some (.slice e), some .string, .slice r n =>
  match P.underlying e with
  | some (.int .u8) =>
   match r with
   | none => some (.str [])
   | some (_, o) => if n = 0 then some (.str []) else (Bx ob o n).bind fun cs => (bytesOf cs).map .str
  | _ => none
 | some (.slice e), some .string, .Gg n cs =>
  match P.underlying e with
  | some (.int .u8) => if cs.length = n then (bytesOf cs).map .str else none
  | _ => none
 | _, _, _ => none
def It (t : TypeId) (l c : AA) : Option Vc :=
 match P.underlying t, l, c with
 | some (.slice e), .int _ l, .int _ c =>
  match P.info? e with
  | some i =>
   match i.zero.map Wp with
   | some z =>
    match z.cells?.map (·.map EV) with
    | some zc =>
     if 0 ≤ l ∧ l ≤ c ∧ c ≤ 1099511627776 ∧ i.bytes * c ≤ 1099511627776 ∧ zc.length = i.size ∧ zc.all AA.one = true then
      some (fun n => .slice (some (n, 0)) l.toNat, .cells (some e) 2 (D9 zc c.toNat))
     else none
    | none => none
   | none => none
  | none => none
 | _, _, _ => none
def Ds (n : Nat) (lo hi : Option AA) : Option (Nat × Nat) :=
 match hi with
 | some (.int _ u) =>
  if 0 ≤ u ∧ u ≤ n then
   match lo with
   | some (.int _ l) => if 0 ≤ l ∧ l ≤ u then some (l.toNat, u.toNat) else none
   | some _ => none
   | none => some (0, u.toNat)
  else none
 | some _ => none
 | none =>
  match lo with
  | some (.int _ l) => if 0 ≤ l ∧ l ≤ n then some (l.toNat, n) else none
  | some _ => none
  | none => some (0, n)
def QP (t : TypeId) (x : AA) (lo hi : Option AA) : Option AA :=
 match P.underlying t, x with
 | some .string, .str s => (Ds s.length lo hi).map fun (l, u) => .str ((s.drop l).take (u - l))
 | _, _ => none
def MM (ob : Option BY) (t : TypeId) (x : AA) (lo hi : Option AA) : Option AA :=
 match P.underlying t, x with
 | some (.array n e), .ptr (some (id, o)) =>
  match ob with
  | some (.cells none _ _) => (Bq P e).bind fun z => (Ds n lo hi).map fun (l, u) => .slice (some (id, o + l * z)) (u - l)
  | _ => none
 | some (.slice e), .slice none 0 => (Bq P e).bind fun _ => (Ds 0 lo hi).map fun _ => .slice none 0
 | some (.slice e), .Gg n cs => (Bq P e).bind fun z => if cs.length = n * z then (Ds n lo hi).map fun (l, u) => .Gg (u - l) ((cs.drop (l * z)).take ((u - l) * z)) else none
 | some (.slice e), .slice (some (id, o)) n =>
  match ob, Bq P e with
  | some (.cells none _ _), some z => (Ds n lo hi).map fun (l, u) => .slice (some (id, o + l * z)) (u - l)
  | some (.cells (some e') _ _), some z => if Bq P e' = some z then (Ds n lo hi).map fun (l, u) => .slice (some (id, o + l * z)) (u - l) else none
  | _, _ => none
 | _, _ => none
def Kt (s : TypeId) (x : AA) (f : Nat) : Option AA :=
 match P.underlying s, x with
 | some (.struct fs), .ptr (some (id, o)) =>
  match fs[f]? with
  | some fd =>
   match Bq P fd.type with
   | some 0 => none
   | some _ => some (.ptr (some (id, o + fd.offset)))
   | none => none
  | none => none
 | some (.struct fs), .H9 g o =>
  match fs[f]? with
  | some fd =>
   match Bq P fd.type with
   | some 0 => none
   | some _ => some (.H9 g (o + fd.offset))
   | none => none
  | none => none
 | some (.struct fs), .AR cs =>
  match fs[f]? with
  | some fd =>
   match Bq P fd.type with
   | some 0 => none
   | some _ => some (.AR (cs.drop fd.offset))
   | none => none
  | none => none
 | _, _ => none
def SA (s : TypeId) (x : AA) (f : Nat) : Option AA :=
 match P.underlying s, x with
 | some (.struct fs), .agg cs =>
  match fs[f]? with
  | some fd => Dp P fd.type cs fd.offset
  | none => none
 | _, _ => none
def G8 (t : TypeId) (x i : AA) : Option AA :=
 match P.underlying t, x, i with
 | some (.array n e), .ptr (some (id, o)), .int _ i => if 0 ≤ i ∧ i < n then (Bq P e).map fun z => .ptr (some (id, o + i.toNat * z)) else none
 | some (.slice e), .slice (some (id, o)) n, .int _ i => if 0 ≤ i ∧ i < n then (Bq P e).map fun z => .ptr (some (id, o + i.toNat * z)) else none
 | some (.array n e), .H9 g o, .int _ i => if 0 ≤ i ∧ i < n then (Bq P e).map fun z => .H9 g (o + i.toNat * z) else none
 | some (.array n e), .AR cs, .int _ i => if 0 ≤ i ∧ i < n then (Bq P e).map fun z => .AR (cs.drop (i.toNat * z)) else none
 | some (.slice e), .Gg n cs, .int _ i => if 0 ≤ i ∧ i < n then (Bq P e).bind fun z => if cs.length = n * z ∧ z ≠ 0 then some (.AR ((cs.drop (i.toNat * z)).take z)) else none else none
 | _, _, _ => none
def L3 (t : TypeId) (x i : AA) : Option AA :=
 match P.underlying t, x, i with
 | some (.array n e), .agg cs, .int _ i => if 0 ≤ i ∧ i < n then (Bq P e).bind fun z => Dp P e cs (i.toNat * z) else none
 | some .string, .str s, .int _ i => if 0 ≤ i then (s[i.toNat]?).map fun b => .int .u8 b.toNat else none
 | _, _, _ => none
def DC (h : AD) (z n : Nat) : AA → Option (List AA)
 | .slice (some (id, o)) _ => if n = 0 then some [] else Bx (h.get id) o (n * z)
 | .slice none _ => if n = 0 then some [] else none
 | .str s => if z = 1 then some ((s.take n).map fun b => .int .u8 b.toNat) else none
 | .Gg n' cs => if n ≤ n' ∧ cs.length = n' * z then some (cs.take (n * z)) else none
 | _ => none
def Nn : AA → Option Nat
 | .slice _ n => some n
 | .Gg n _ => some n
 | .str s => some s.length
 | _ => none
def H2 : TypeDesc → Bool
 | .int _ => false
 | _ => true
def appendCore (g : Gd) (h : AD) (e : TypeId) (i : TypeInfo) (r : Option (Nat × Nat)) (sl n : Nat) (x : AA) : Option (AA × AD) :=
 if n = 0 then some (.slice r sl, h)
 else if i.size ≠ 0 ∧ sl + n ≤ 1099511627776 ∧ (sl + n) * i.bytes ≤ 1099511627776 ∧ i.zero.map (·.cells.size) = some i.size then
  match (DC h i.size n x).map (·.map EV), DC h i.size sl (.slice r sl) with
  | some new, some Fq =>
   if (Fq ++ new).all AA.one = true then
    match r with
    | none => some (.slice (some (h.size, 0)) (sl + n), h.push (.cells (some e) 2 (Fq ++ new)))
    | some (id, _) =>
     match h.get id with
     | some (.cells (some e') 2 _) =>
      if g.may id = true ∧ e' = e then some (.slice (some (h.size, 0)) (sl + n), (h.set id (.cells (some e') 0 [])).push (.cells (some e) 2 (Fq ++ new)))
      else none
     | _ => none
   else none
  | _, _ => none
 else none
def Le (g : Gd) (h : AD) (ts : Array TypeId) (s x : AA) : Option (AA × AD) :=
 match ts[0]?, ts[1]?, s, Nn x with
 | some st, some xt, .slice r sl, some n =>
  match P.underlying st, P.underlying xt with
  | some (.slice e), some d =>
   match P.info? e with
   | some i => if H2 d = true then appendCore g h e i r sl n x else none
   | none => none
  | _, _ => none
 | _, _, _, _ => none
def Qs (g : Gd) (h : AD) (ts : Array TypeId) (d x : AA) : Option (AA × AD) :=
 match ts[0]?, d, Nn x with
 | some dt, .slice r dl, some sl =>
  match P.underlying dt with
  | some (.slice e) =>
   match Bq P e with
   | some z =>
    match DC h z (min sl dl) x, r with
    | some new, some (id, o) => if min sl dl = 0 then some (.int .i64 0, h) else (CA g h id o new).map fun h' => (.int .i64 (min sl dl : Nat), h')
    | some _, none => if min sl dl = 0 then some (.int .i64 0, h) else none
    | none, _ => none
   | none => none
  | _ => none
 | _, _, _ => none
def ZB (ts : Array TypeId) (x : AA) : Option AA :=
 match ts[0]? with
 | none => none
 | some t =>
  match P.underlying t, x with
  | some .string, .str s => some (.int .i64 s.length)
  | some (.array n _), _ => some (.int .i64 n)
  | some (.slice _), .slice _ n => some (.int .i64 n)
  | some (.slice _), .Gg n _ => some (.int .i64 n)
  | _, _ => none
def YS (ob : Option BY) (ts : Array TypeId) (x : AA) : Option AA :=
 match ts[0]? with
 | none => none
 | some t =>
  match P.underlying t, x with
  | some (.map _ _), .map none => some (.int .i64 0)
  | some (.map _ _), .map (some _) =>
   match ob with
   | some (.map st es) => if st ≠ 0 then some (.int .i64 es.length) else none
   | _ => none
  | some (.chan _ _), .chan (some _) =>
   match ob with
   | some (.chan _ buf) => some (.int .i64 buf.length)
   | _ => none
  | _, _ => none
def KE (mx : Bool) : AA → List AA → Option AA
 | v, [] => some v
 | .int k a, .int k' b :: r => if k = k' then KE mx (.int k (if mx then (if b > a then b else a) else (if b < a then b else a))) r else none
 | _, _ => none
def CZ (t : TypeId) (k : AA) : List (AA × AA) → Nat → Option (Option (Nat × AA))
 | [], _ => some none
 | (k', v) :: es, i =>
  match Fb P 10000 t k k' with
  | some true => some (some (i, v))
  | some false => CZ t k es (i + 1)
  | none => none
def EE : Nat → TypeId → AA → Bool
 | 0, _, _ => false
 | d + 1, t, v =>
  match P.underlying t, v with
  | some (.int _), .int _ _ => true
  | some .string, .str _ => true
  | some .bool, .bool _ => true
  | some (.struct fs), .agg cs => fs.toList.all (fun f => f.name != "_" && (match Dp P f.type cs f.offset with | some x => EE d f.type x | none => false))
  | some (.array n e), .agg cs => (match Bq P e with | some z => (List.range n).all (fun i => match Dp P e cs (i * z) with | some x => EE d e x | none => false) | none => false)
  | _, _ => false
def KJ (ob : Option BY) (t : TypeId) (x k : AA) (ok : Bool) : Option AA :=
 match P.underlying t, x with
 | some (.map kt et), .map r =>
  if EE P 20 kt k = true then
   match (match r with | none => some [] | some _ => match ob with | some (.map st es) => if st ≠ 0 then some es else none | _ => none) with
   | some es =>
    match CZ P kt k es 0 with
    | some (some (_, v)) => some (if ok then .tuple [v, .bool true] else v)
    | some none => (Ga P et).map fun z => if ok then .tuple [z, .bool false] else z
    | none => none
   | none => none
  else none
 | _, _ => none
def Mq : AA → AA → Bool
 | .int k a, .int k' b => decide (k = k') && a == b
 | .str a, .str b => a == b
 | .bool a, .bool b => a == b
 | _, _ => false
def JR : AA → AA → Bool
 | .agg a, .agg b => a.length == b.length && (a.zip b).all fun p => Mq p.1 p.2
 | x, y => Mq x y
def FZ (g : Gd) (h : AD) : AA → Option (AA × AD)
 | .slice none 0 => some (.Gg 0 [], h)
 | .slice (some (id, 0)) n =>
  bif Nat.beq n 0 then some (.Gg 0 [], h) else
  match h.get id with
  | some (.cells gr 2 cs) => bif g.may id then some (.Gg n cs, h.set id (.cells gr 0 cs)) else none
  | some (.cells _ 0 (c :: cs)) => some (.Gg n (c :: cs), h)
  | _ => none
 | v => some (v, h)
def Gw (g : Gd) (h : AD) (t : TypeId) (m k v : AA) : Option AD :=
 match P.underlying t, m with
 | some (.map kt _), .map (some id) =>
  if EE P 20 kt k = true ∧ g.may id = true then
   match h.get id with
   | some (.map 2 es) =>
    match CZ P kt k es 0 with
    | some (some (i, _)) =>
     match es[i]? with
     | some (k', _) => if JR k' k = true then some (h.set id (.map 2 (es.set i (k, v)))) else none
     | none => none
    | some none => some (h.set id (.map 2 (es ++ [(k, v)])))
    | none => none
   | _ => none
  else none
 | _, _ => none
def En (g : Gd) (h : AD) (t : TypeId) (m k v : AA) : Option AD := (FZ g h v).bind fun r => Gw P g r.2 t m k r.1
def KB (g : Gd) (h : AD) (ts : Array TypeId) (m k : AA) : Option AD :=
 match ts[0]? with
 | none => none
 | some t =>
  match P.underlying t, m with
  | some (.map kt _), .map (some id) =>
   if EE P 20 kt k = true ∧ g.may id = true then
    match h.get id with
    | some (.map 2 es) =>
     match CZ P kt k es 0 with
     | some (some (i, _)) => some (h.set id (.map 2 (es.eraseIdx i)))
     | some none => some h
     | none => none
    | _ => none
   else none
  | _, _ => none
def As : Op → Nat
 | .move _ | .assign _ | .pick .. | .build .. | .nilCheck _ | .binOp .. | .unOp .. | .makeFunc .. | .fieldAddr .. | .field .. | .indexAddr .. | .index .. | .extract .. => 0
 | .slice t .. => match P.underlying t with | some .string => 0 | _ => 1
 | .convert s d _ =>
  match P.underlying s, P.underlying d with
  | some (.slice _), some .string => 1
  | some (.slice _), some (.slice _) => 3
  | _, some (.slice _) => 2
  | _, _ => 0
 | .load .. | .lookup .. => 1
 | .alloc _ | .box .. | .buildSlice .. | .makeMap .. | .makeSlice .. | .range .. | .makeChan .. => 2
 | .call { callee := .builtin .len, argTypes := ts, .. } =>
  match ts[0]? with
  | some t => match P.underlying t with | some (.map _ _) => 1 | some (.chan _ _) => 1 | _ => 0
  | none => 0
 | .call { callee := .builtin .min, .. } | .call { callee := .builtin .max, .. } => 0
 | _ => 3
def Ha (fr : Fr) : Op → Option AA
 | .move x | .assign x => some (ev fr x)
 | .pick c a b =>
  match ev fr c with
  | .bool b' => some (bif b' then ev fr a else ev fr b)
  | _ => none
 | .build t parts => St P t (parts.toList.map fun (i, x) => (i, ev fr x))
 | .nilCheck x =>
  match ev fr x with
  | .ptr (some r) => some (.ptr (some r))
  | .H9 g o => some (.H9 g o)
  | .AR cs => some (.AR cs)
  | .func (.func f) a b => some (.func (.func f) a b)
  | _ => none
 | .binOp op t x y _ => Sa P op t (Y1 x || Y1 y) (ev fr x) (ev fr y)
 | .unOp op _ x => bA op (ev fr x)
 | .convert s d x => Vp P s d (ev fr x)
 | .makeFunc fn first cap => some (.func fn (first.toList.map (ev fr)) (cap.toList.map (ev fr)))
 | .slice t x lo hi none => QP P t (ev fr x) (lo.map (ev fr)) (hi.map (ev fr))
 | .fieldAddr s x f => Kt P s (ev fr x) f
 | .field s x f => SA P s (ev fr x) f
 | .indexAddr t x i => G8 P t (ev fr x) (ev fr i)
 | .index t x i => L3 P t (ev fr x) (ev fr i)
 | .extract x i =>
  match ev fr x with
  | .tuple vs => vs[i]?
  | _ => none
 | .call { callee := .builtin b, args := as, argTypes := ts } =>
  match b, as.toList.map (ev fr) with
  | .len, [x] => ZB P ts x
  | .min, x :: r => KE false x r
  | .max, x :: r => KE true x r
  | _, _ => none
 | _ => none
def Dn : AA → Option Nat
 | .ptr (some (id, _)) => some id
 | .slice (some (id, _)) _ => some id
 | .map (some id) => some id
 | .chan (some id) => some id
 | _ => none
def Ci (fr : Fr) : Op → Option Nat
 | .load _ x => Dn (ev fr x)
 | .slice _ x _ _ _ => Dn (ev fr x)
 | .convert _ _ x => Dn (ev fr x)
 | .lookup _ x _ _ => Dn (ev fr x)
 | .call { args := as, .. } =>
  match as.toList with
  | [x] => Dn (ev fr x)
  | _ => none
 | _ => none
def JQ (G : Nat → Option (List AA)) (fr : Fr) (ob : Option BY) : Op → Option AA
 | .load t a =>
  match ev fr a with
  | .ptr (some (_, o)) => Fw P ob t o
  | .H9 g o => Fw P ((G g).map fun cs => .cells none 1 cs) t o
  | .AR cs => Fw P (some (.cells none 1 cs)) t 0
  | _ => none
 | .slice t x lo hi none => MM P ob t (ev fr x) (lo.map (ev fr)) (hi.map (ev fr))
 | .convert s d x => PA P ob s d (ev fr x)
 | .lookup t x k ok => KJ P ob t (ev fr x) (ev fr k) ok
 | .call { callee := .builtin .len, args := as, argTypes := ts } =>
  match as.toList with
  | [x] => YS P ob ts (ev fr x)
  | _ => none
 | _ => none
def Ot (fr : Fr) : Op → Option Vc
 | .alloc e => (Ga P e).bind NO
 | .box _ x => NO (ev fr x)
 | .buildSlice t len parts => Jz P t len (parts.toList.map fun (i, x) => (i, ev fr x))
 | .convert s d x => WG P s d (ev fr x)
 | .makeMap _ none => some (fun n => .map (some n), .map 2 [])
 | .makeSlice t l c => It P t (ev fr l) (ev fr c)
 | .makeChan t n =>
  match P.underlying t, ev fr n with
  | some (.chan _ e), .int _ n =>
   match P.info? e with
   | some i => if 0 ≤ n ∧ n ≤ 1099511627776 ∧ i.bytes * n ≤ 1099511627776 then some (fun k => .chan (some k), .chan n.toNat []) else none
   | none => none
  | _, _ => none
 | .range t x =>
  match P.underlying t, ev fr x with
  | some .string, .str s => some (fun n => .ptr (some (n, 0)), .iter s 0)
  | _, _ => none
 | _ => none
def Tx (g : Gd) (h : AD) (s d : TypeId) (x : AA) : Option (AA × AD) :=
 match P.underlying s, P.underlying d, x with
 | some (.slice _), some (.slice e), .slice (some (id, o)) n =>
  match P.underlying e, h.get id with
  | some (.int .u8), some (.cells gr 2 cs) => bif Nat.beq s d && (g.may id && !(Nat.beq n 0)) then some (.slice (some (id, o)) n, h.set id (.cells gr 2 cs)) else none
  | _, _ => none
 | _, _, _ => none
def JP (g : Gd) (h : AD) (fr : Fr) : Op → Option (AA × AD)
 | .convert s d x => Tx P g h s d (ev fr x)
 | .store t a x =>
  match ev fr a with
  | .ptr (some (id, o)) => (Jk P g h t id o (ev fr x)).map (.tuple [], ·)
  | _ => none
 | .mapUpdate t m k v | .insert t m k v => (En P g h t (ev fr m) (ev fr k) (ev fr v)).map (.tuple [], ·)
 | .next it true =>
  match ev fr it with
  | .ptr (some (id, 0)) =>
   match h.get id with
   | some (.iter s pos) =>
    if g.may id = true then
     if pos < s.length then
      some (.tuple [.bool true, .int .i64 pos, .int .i32 (Utf8.decode ⟨⟨s⟩⟩ pos).1], h.set id (.iter s (pos + (Utf8.decode ⟨⟨s⟩⟩ pos).2)))
     else some (.tuple [.bool false], h)
    else none
   | _ => none
  | _ => none
 | .call { callee := .builtin b, args := as, argTypes := ts } =>
  match b, as.toList.map (ev fr) with
  | .append, [s, x] => Le P g h ts s x
  | .copy, [d, x] => Qs P g h ts d x
  | .delete, [m, k] => (KB P g h ts m k).map (.tuple [], ·)
  | _, _ => none
 | _ => none
def G3 (G : Nat → Option (List AA)) (g : Gd) (h : AD) (fr : Fr) (op : Op) : Option (AA × AD) :=
 match As P op with
 | 0 => (Ha P fr op).map (·, h)
 | 1 =>
  match Ci fr op with
  | none => (JQ P G fr none op).map (·, h)
  | some id =>
   match h.get id with
   | some ob => (JQ P G fr (some ob) op).map (·, h)
   | none => none
 | 2 => (Ot P fr op).map fun x => (x.1 h.size, h.push x.2)
 | _ => JP P g h fr op
end
structure Ry where
 o8 : Array Oper
 b : Nat
 o9 : Array Oper
 tb : Tmp
 b2 : Nat
 Qo : Array Oper
 body : Code
def Oo : Code → Option Ry
 | .seq (.region _ o8 false) (.block b (.loop (.seq (.region _ o9 false) (.seq (.cond (.tmp tb) .skip (.exit b')) (.block b2 (.seq (.region _ Qo false) body)))))) => bif Nat.beq b b' && !Nat.beq b b2 then some ⟨o8, b, o9, tb, b2, Qo, body⟩ else none
 | _ => none
def V4 (o9 : Array Oper) (tI tb : Tmp) : Option Tmp :=
 match o9.toList with
 | [n, x] =>
  match n.op, n.dst, n.guard, x.op, x.dst, x.guard with
  | .next (.tmp t) false, some tn, none, .extract (.tmp tn') 0, some tb', none => bif Nat.beq t tI && Nat.beq tn tn' && Nat.beq tb tb' && !Nat.beq tn tI && !Nat.beq tb tI then some tn else none
  | _, _, _, _, _, _ => none
 | _ => none
def Wi (Qo : Array Oper) (tI : Tmp) : Option (Tmp × List Oper) :=
 match Qo.toList with
 | n :: rest =>
  match n.op, n.dst, n.guard with
  | .entry (.tmp t), some te, none => bif Nat.beq t tI && !Nat.beq te tI then some (te, rest) else none
  | _, _, _ => none
 | _ => none
def QY (n : Nat) : AA → Bool
 | .undef | .bool _ | .int _ _ | .str _ | .ptr none | .slice none _ | .map none | .nilFunc | .nilIface => true
 | .ptr (some (i, _)) => Nat.blt i n
 | .slice (some (i, _)) _ => Nat.blt i n
 | _ => false
def Hb (n : Nat) : AA → Bool
 | .agg cs => cs.all (QY n)
 | v => QY n v
def DV (ks : List Nat) : Nat → Fr → Fr
 | _, [] => []
 | i, a :: l => (bif ks.any (Nat.beq i) then a else .undef) :: DV ks (i + 1) l
def LL (it : Nat) : AA → Bool
 | .ptr (some (a, b)) => Nat.beq a it && Nat.beq b 0
 | _ => false
abbrev PG := Option (Nat × Option TypeId)
def Cc (hh : AD) (ob : PG) (cs : List AA) : AD :=
 match ob with
 | none => hh
 | some (id, gr) => hh.set id (.cells gr 2 cs)
def MR (n : Nat) : PG → Gd
 | none => ⟨n, []⟩
 | some (id, _) => ⟨0, (List.range n).filter fun k => !Nat.beq k id⟩
def Ty (g : Gd) : PG → Bool
 | none => true
 | some (id, _) => g.may id
def Ru (h : AD) (fr : Fr) : Option Tmp → Option (PG × List AA)
 | none => some (none, [])
 | some t =>
  match nth fr t with
  | .slice (some (id, _)) _ =>
   match h.get id with
   | some (.cells gr 2 cs) => some (some (id, gr), cs)
   | _ => none
  | _ => none
def Kg : AA → Bool
 | .bool _ | .int _ _ | .str _ => true
 | _ => false
def Nr (ob : PG) (h : AD) : Option (List AA) :=
 match ob with
 | none => some []
 | some (id, gr) =>
  match h.get id with
  | some (.cells gr' 2 cs) => if gr' = gr ∧ cs.all Kg = true then some cs else none
  | _ => none
def O2 (ks : List Nat) (n : Nat) (ob : PG) (fr : Fr) (h : AD) (r : Bool) : Option (Bool × Fr × List AA) :=
 bif (DV ks 0 fr).all (Hb n) then (Nr ob h).map fun cs => (r, DV ks 0 fr, cs) else none
def Cd {α β : Type} (rnd : α → β → Option (Bool × α)) : List β → α → Option (Bool × α)
 | [], a => some (false, a)
 | p :: l, a =>
  match rnd a p with
  | some (false, b) => Cd rnd l b
  | r => r
def N8 (ks : List Nat) (n tn tb : Nat) : Bool := !ks.any (Nat.beq tn) && !ks.any (Nat.beq tb) && Nat.blt tn n && Nat.blt tb n
def af : Type := { d : Prop → Bool // (∀ p : Prop, d p = true → p) ∧ ∀ p q : Prop, d p = true → (p → q) → d q = true }
def Xl : af := ⟨fun _ => false, fun _ h => (nomatch h), fun _ _ h => (nomatch h)⟩
noncomputable def Qj : af := ⟨fun p => @decide p (Classical.propDecidable p), fun p h => @of_decide_eq_true p (Classical.propDecidable p) h, fun p q h k => @decide_eq_true q (Classical.propDecidable q) (k (@of_decide_eq_true p (Classical.propDecidable p) h))⟩
structure FY where
 P : Program
 kind : Nat → Nat
 KU : Nat → Nat → List (Nat × List Nat)
 ext : Nat → Gd → AD → List AA → Option (AA × AD)
 Bt : Nat → Option (List AA) := fun _ => none
 Xq : FuncId → Code → Code → Bool := fun _ _ _ => false
 still : FuncId → List Bool := fun _ => []
 VH : FuncId → Nat → Option (List Nat × List Nat × Option Tmp) := fun _ _ => none
 dec : af := Xl
inductive BN where
 | normal
 | exit (id : Nat)
 | ret
structure Self where
 call : Gd → AD → FuncId → List AA → Option (AA × AD)
 loop : Gd → FuncId → Code → Fr → AD → Option (BN × Fr × AD)
 round : Gd → AD → Nat → List AA → Option (AA × AD)
section
variable (C : FY) (S : Self)
def A0 (g : Gd) (h : AD) (fr : Fr) (op : Op) : Option (AA × AD) :=
 match op with
 | .call { callee := .value x, args := as, .. } =>
  match ev fr x with
  | .func (.func f) first cap => S.call g h f (first ++ (as.toList.map (ev fr) ++ cap))
  | .Ur l => S.round g h l (as.toList.map (ev fr))
  | _ => none
 | op => G3 C.P C.Bt g h fr op
def Bu (ops : Array Oper) (fr : Fr) (o : Oper) : Option Bool :=
 match o.guard with
 | none => some true
 | some (j, want) =>
  match (ops[j]?).bind (·.dst) with
  | none => some false
  | some d =>
   match nth fr d with
   | .bool b => some (b == want)
   | .undef => none
   | _ => some false
def Cq (g : Gd) (ops : Array Oper) : List Oper → Fr → AD → Option (Fr × AD)
 | [], fr, h => some (fr, h)
 | o :: rest, fr, h =>
  match Bu ops fr o with
  | some true =>
   match A0 C S g h fr o.op with
   | some (v, h') => Cq g ops rest (put fr o.dst v) h'
   | none => none
  | some false => Cq g ops rest (put fr o.dst (.tuple [])) h
  | none => none
def Gk (tch : List (Nat × Nat)) (U : List Nat) : List Nat := tch.filterMap fun (i, id) => bif U.any (Nat.beq i) then some id else none
def FB (P : Program) (h : AD) (fr : Fr) (i : Nat) (op : Op) (tch : List (Nat × Nat)) : List (Nat × Nat) :=
 match As P op with
 | 1 => match Ci fr op with | some id => (i, id) :: tch | none => tch
 | 2 => (i, h.size) :: tch
 | _ => tch
def U7 : AA → AA → Bool
 | .ptr (some (a, b)), .ptr (some (c, d)) => Nat.beq a c && Nat.beq b d
 | .int k a, .int k' b => decide (k = k') && decide (a = b)
 | .bool a, .bool b => a == b
 | .str a, .str b => decide (a = b)
 | .Gg 0 [], .Gg 0 [] => true
 | _, _ => false
def X3 (ops : Array Oper) (fr : Fr) (h : AD) (i : Nat) : Bool :=
 match ops[i]? with
 | some o =>
  match Bu ops fr o with
  | some false => true
  | some true =>
   match o.dst, Ci fr o.op with
   | some d, some id =>
    Nat.blt d fr.length && (match h.get id with
     | some ob => (match JQ C.P C.Bt fr (some ob) o.op with | some v => U7 v (nth fr d) | none => false)
     | none => false)
   | _, _ => false
  | none => false
 | none => false
def M6 (ops : Array Oper) (U : List Nat) (fr : Fr) (h : AD) : Bool := U.all fun u => Nat.blt u 10000 || X3 C ops fr h (u - 10000)
def Bl (g : Gd) (ops : Array Oper) : List (Nat × List Nat) → List (Nat × Nat) → Fr → AD → Option (Fr × AD)
 | [], _, fr, h => some (fr, h)
 | (i, U) :: rest, tch, fr, h =>
  match ops[i]? with
  | none => none
  | some o =>
   match Bu ops fr o with
   | some true =>
    match A0 C S ⟨g.floor, Gk tch U ++ g.Cl⟩ h fr o.op with
    | some (v, h') => bif M6 C ops U (put fr o.dst v) h' then Bl g ops rest (FB C.P h fr i o.op tch) (put fr o.dst v) h' else none
    | none => none
   | some false => Bl g ops rest tch (put fr o.dst (.tuple [])) h
   | none => none
def Ns (P : Program) (f : FuncId) : Bool :=
 match P.funcs[f]? with
 | some fn => fn.body.isSome && !(fn.name == "runtime.NumGoroutine")
 | none => false
def Az (f : FuncId) (g : Gd) : Code → Fr → AD → Option (BN × Fr × AD)
 | .skip, fr, h => some (.normal, fr, h)
 | .label _, fr, h => some (.normal, fr, h)
 | .region id ops draw, fr, h =>
  match (bif draw then Bl C S g ops (C.KU f id) [] fr h else Cq C S g ops ops.toList fr h) with
  | some (fr', h') => some (.normal, fr', h')
  | none => none
 | .seq a b, fr, h =>
  match Az f g a fr h with
  | some (.normal, fr', h') => Az f g b fr' h'
  | r => r
 | .cond c a b, fr, h =>
  match ev fr c with
  | .bool true => Az f g a fr h
  | .bool false => Az f g b fr h
  | _ => none
 | .block id c, fr, h =>
  match Az f g c fr h with
  | some (.exit i, fr', h') => bif Nat.beq i id then some (.normal, fr', h') else some (.exit i, fr', h')
  | r => r
 | .loop c, fr, h =>
  match Az f g c fr h with
  | some (.normal, fr', h') => S.loop g f c fr' h'
  | r => r
 | .scope c, fr, h => Az f g c fr h
 | .exit id, fr, h => some (.exit id, fr, h)
 | .ret, fr, h => some (.ret, fr, h)
 | .rangeFunc x ps a b, fr, h =>
  match ev fr x with
  | .func (.func f') first cap =>
   bif !Ns C.P f' then none else
   match S.call g (h.push (.loop 0 none f fr ps.toList a b)) f' (first ++ ([.Ur h.size] ++ cap)) with
   | some (_, h2) =>
    match h2.get h.size with
    | some (.loop st pend f2 fr2 ps2 a2 b2) =>
     bif Nat.beq st 1 || !g.may h.size then none else
     match pend with
     | none => some (.normal, fr, h2.set h.size (.loop 3 pend f2 fr2 ps2 a2 b2))
     | some .ret => some (.ret, fr, h2.set h.size (.loop 3 pend f2 fr2 ps2 a2 b2))
     | some (.exit i) => some (.exit i, fr, h2.set h.size (.loop 3 pend f2 fr2 ps2 a2 b2))
     | _ => none
    | _ => none
   | none => none
  | _ => none
 | _, _, _ => none
def OF : List Tmp → List AA → Fr → Fr
 | p :: ps, v :: vs, fr => OF ps vs (fr.set p v)
 | _, _, fr => fr
def au : Option Code → Nat
 | none => 0
 | some _ => 2
def IQ (g : Gd) (l : Nat) (j : Option Code) (h : AD) : Option (AA × AD) :=
 match h.get l with
 | some (.loop _ _ f fr ps a b) => bif g.may l then some (.bool j.isNone, h.set l (.loop (au j) j f fr ps a b)) else none
 | _ => none
def MT (g : Gd) (h : AD) (l : Nat) (args : List AA) : Option (AA × AD) :=
 match h.get l with
 | some (.loop 0 _ f fr ps a b) =>
  bif Nat.beq args.length ps.length && (g.may l && C.Xq f a b) then
   match Az C S f g a (OF ps args fr) h with
   | some (.normal, fr1, h1) =>
    match h1.get l with
    | some (.loop 0 pend f2 fr2 ps2 a2 b2) =>
     match Az C S f g b fr1 (h1.set l (.loop 1 pend f2 fr2 ps2 a2 b2)) with
     | some (.normal, _, h3) => IQ g l none h3
     | some (.ret, _, h3) => IQ g l (some .ret) h3
     | some (.exit i, _, h3) => IQ g l (some (.exit i)) h3
     | none => none
    | _ => none
   | _ => none
  else none
 | _ => none
def VG (P : Program) (g : Gd) (h : AD) (fr : Fr) : Op → Option (AA × AD)
 | .select cases blocking =>
  match cases.toList, blocking with
  | [c], false =>
   match Ga P c.elem with
   | some z =>
    match ev fr c.chan with
    | .chan (some id) =>
     match h.get id with
     | some (.chan cap buf) =>
      match c.send with
      | some x =>
       bif Nat.ble cap buf.length then some (.tuple [.int .i64 (-1), .bool false], h)
       else bif g.may id then some (.tuple [.int .i64 0, .bool false], h.set id (.chan cap (buf ++ [ev fr x])))
       else none
      | none =>
       match buf with
       | v :: rest => bif g.may id then some (.tuple [.int .i64 0, .bool true, v], h.set id (.chan cap rest)) else none
       | [] => some (.tuple [.int .i64 (-1), .bool false, z], h)
     | _ => none
    | _ => none
   | none => none
  | _, _ => none
 | _ => none
def KA : Code → Bool
 | .region _ ops draw => !draw && (match ops[0]? with | some o => (match o.op with | .select _ _ => o.guard.isNone | _ => false) | none => false)
 | _ => false
def H8 (g : Gd) : Code → Fr → AD → Option (BN × Fr × AD)
 | .region _ ops _, fr, h =>
  match ops.toList with
  | o :: rest =>
   match VG C.P g h fr o.op with
   | some (v, h') =>
    match Cq C S g ops rest (put fr o.dst v) h' with
    | some (fr', h') => some (.normal, fr', h')
    | none => none
   | none => none
  | [] => none
 | _, _, _ => none
def Hu (f : FuncId) (g : Gd) : Code → Fr → AD → Option (BN × Fr × AD)
 | .seq a b, fr, h =>
  match Hu f g a fr h with
  | some (.normal, fr', h') => Hu f g b fr' h'
  | r => r
 | c, fr, h => bif KA c then H8 C S g c fr h else Az C S f g c fr h
def IM (f : FuncId) (q : Ry) (ks rs : List Nat) (it : Nat) (tI te : Tmp) (rest : List Oper) (hh : AD) (ob : PG) (σ : Fr × List AA) (p : AA × AA) : Option (Bool × Fr × List AA) :=
 match Cq C S (MR hh.size ob) q.Qo rest (σ.1.set te (.tuple [p.1, p.2])) (Cc hh ob σ.2) with
 | some (fr2, h2) =>
  match Az C S f (MR hh.size ob) q.body fr2 h2 with
  | some (.normal, fr, h) => bif LL it (nth fr tI) then O2 ks hh.size ob fr h false else none
  | some (.exit i, fr, h) => bif Nat.beq i q.b2 && LL it (nth fr tI) then O2 ks hh.size ob fr h false else none
  | some (.ret, fr, h) => O2 rs hh.size ob fr h true
  | none => none
 | none => none
def Pl (rnd : Fr × List AA → AA × AA → Option (Bool × Fr × List AA)) (es : List (AA × AA)) (σ : Fr × List AA) (hh : AD) (ob : PG) : Option (BN × Fr × AD) :=
 match Cd rnd es σ with
 | some (r, fr, cs) => bif C.dec.1 (∀ es', es'.Perm es → Cd rnd es' σ = some (r, fr, cs)) then some (bif r then .ret else .normal, fr, Cc hh ob cs) else none
 | none => none
def Ma (f : FuncId) (q : Ry) (g : Gd) (ks rs : List Nat) (ot : Option Tmp) (orng : Oper) (fr1 : Fr) (h1 : AD) : Option (BN × Fr × AD) :=
 match orng.op, orng.dst, orng.guard with
 | .range tM x, some tI, none =>
  match ev fr1 x, C.P.underlying tM, V4 q.o9 tI q.tb, Wi q.Qo tI with
  | .map (some id), some (.map _ _), some tn, some (te, rest) =>
   match h1.get id, Ru h1 fr1 ot with
   | some (.map 2 es), some (ob, cs0) =>
    bif g.may id && Ty g ob && (DV ks 0 (fr1.set tI (.ptr (some (h1.size, 0))))).all (Hb (h1.size + 1)) && LL h1.size (nth (DV ks 0 (fr1.set tI (.ptr (some (h1.size, 0))))) tI) && N8 ks fr1.length tn q.tb && cs0.all Kg then
     Pl C (IM C S f q ks rs h1.size tI te rest ((h1.set id (.map 0 [])).push (.cells none 0 [])) ob) es (DV ks 0 (fr1.set tI (.ptr (some (h1.size, 0)))), cs0) ((h1.set id (.map 0 [])).push (.cells none 0 [])) ob
    else none
   | _, _ => none
  | _, _, _, _ => none
 | _, _, _ => none
def LM (f : FuncId) (q : Ry) (g : Gd) (fr : Fr) (h : AD) : Option (BN × Fr × AD) :=
 match C.VH f q.b, q.o8.toList.getLast?, Cq C S g q.o8 q.o8.toList.dropLast fr h with
 | some (ks, rs, ot), some orng, some (fr1, h1) => Ma C S f q g ks rs ot orng fr1 h1
 | _, _, _ => none
def Et (f : FuncId) (g : Gd) : Code → Fr → AD → Option (BN × Fr × AD)
 | .seq a b, fr, h =>
  match Oo (.seq a b) with
  | some q => LM C S f q g fr h
  | none =>
   match Et f g a fr h with
   | some (.normal, fr', h') => Et f g b fr' h'
   | r => r
 | c, fr, h => Az C S f g c fr h
def GN (P : Program) (fr : Fr) (h : AD) : ResultVar → Option AA
 | .tmp t => some (nth fr t)
 | .cell a t =>
  match nth fr a with
  | .ptr (some (id, o)) => Fw P (h.get id) t o
  | _ => none
def Cg (P : Program) (fn : Func) (fr : Fr) (h : AD) : Option AA :=
 match fn.results.toList.mapM (GN P fr h) with
 | some [v] => some v
 | some vs => some (.tuple vs)
 | none => none
def EG : AA → Bool
 | .bool _ | .int _ _ | .str _ | .ptr none | .slice none _ | .map none | .chan none | .nilFunc | .nilIface => true
 | _ => false
def HK : AA → Bool
 | .agg cs => cs.all EG
 | v => EG v
def LH : AA → Bool
 | .tuple vs => vs.all HK
 | v => HK v
def HZ (g : Gd) (h : AD) (f : FuncId) (args : List AA) : Option (AA × AD) :=
 match C.P.funcs[f]? with
 | none => none
 | some fn =>
  match fn.body with
  | none => none
  | some c =>
   match Az C S f g c (args ++ List.replicate (fn.ntmps - args.length) (.tuple [])) h with
   | some (.normal, fr, h') => (Cg C.P fn fr h').map (·, h')
   | some (.ret, fr, h') => (Cg C.P fn fr h').map (·, h')
   | _ => none
def Pf (g : Gd) (h : AD) (f : FuncId) (args : List AA) : Option (AA × AD) :=
 match C.P.funcs[f]? with
 | none => none
 | some fn =>
  match fn.body with
  | none => none
  | some c =>
   match Hu C S f g c (args ++ List.replicate (fn.ntmps - args.length) (.tuple [])) h with
   | some (.normal, fr, h') => (Cg C.P fn fr h').map (·, h')
   | some (.ret, fr, h') => (Cg C.P fn fr h').map (·, h')
   | _ => none
def OU (g : Gd) (h : AD) (f : FuncId) (args : List AA) : Option (AA × AD) :=
 match C.P.funcs[f]? with
 | none => none
 | some fn =>
  match fn.body with
  | none => none
  | some c =>
   match Et C S f g c (args ++ List.replicate (fn.ntmps - args.length) (.tuple [])) h with
   | some (.normal, fr, h') => (Cg C.P fn fr h').map (·, h')
   | some (.ret, fr, h') => (Cg C.P fn fr h').map (·, h')
   | _ => none
def JT (f : AD → AA → Option (AA × AD)) : List AA → AD → Option (List AA × AD)
 | [], h => some ([], h)
 | v :: vs, h =>
  match f h v with
  | some (v', h1) => (JT f vs h1).map fun r => (v' :: r.1, r.2)
  | none => none
def Ji (g : Gd) (h : AD) : AA → Option (AA × AD)
 | .agg cs => (JT (FZ g) cs h).map fun r => (.agg r.1, r.2)
 | v => FZ g h v
def NA (g : Gd) (h : AD) : AA → Option (AA × AD)
 | .tuple vs => (JT (Ji g) vs h).map fun r => (.tuple r.1, r.2)
 | v => Ji g h v
def W6 (g : Gd) (h : AD) : AA → Option (AA × AD)
 | .ptr (some (id, 0)) =>
  match h.get id with
  | some (.cells none 2 cs) => bif g.may id then (JT (FZ g) cs (h.set id (.cells none 0 cs))).map fun r => (.AR r.1, r.2) else none
  | _ => none
 | v => Ji g h v
def YT (g : Gd) (h : AD) : AA → Option (AA × AD)
 | .tuple vs => (JT (W6 g) vs h).map fun r => (.tuple r.1, r.2)
 | v => W6 g h v
def VL : AA → AA
 | .agg cs => .agg (cs.map EV)
 | v => EV v
def BG : List Bool → List AA → List AA
 | true :: bs, v :: vs => VL v :: BG bs vs
 | false :: bs, v :: vs => v :: BG bs vs
 | _, vs => vs
def Gm (g : Gd) (h : AD) (f : FuncId) (args : List AA) : Option (AA × AD) :=
 match C.kind f with
 | 1 => HZ C S g h f (BG (C.still f) args)
 | 2 =>
  match HZ C S ⟨h.size, []⟩ h f args with
  | some (v, _) => bif LH v then some (v, h) else none
  | none => none
 | 3 => C.ext f g h args
 | 4 =>
  bif args.all HK then
   match HZ C S ⟨0, []⟩ ⟨0, .leaf⟩ f args with
   | some (v, _) => bif LH v then some (v, h) else none
   | none => none
  else none
 | 7 =>
  match HZ C S g h f (BG (C.still f) args) with
  | some (v, h') => NA g h' v
  | none => none
 | 8 => Pf C S g h f (BG (C.still f) args)
 | 9 =>
  match HZ C S g h f (BG (C.still f) args) with
  | some (v, h') => YT g h' v
  | none => none
 | 10 => OU C S g h f (BG (C.still f) args)
 | 11 =>
  match JT (Ji g) args h with
  | some (args', h1) => HZ C S g h1 f args'
  | none => none
 | _ => none
end
def CR (C : FY) : Nat → Self
 | 0 => ⟨fun _ _ _ _ => none, fun _ _ _ _ _ => none, fun _ _ _ _ => none⟩
 | n + 1 => ⟨Gm C (CR C n), fun g f c => Az C (CR C n) f g (.loop c), MT C (CR C n)⟩
def Ze (C : FY) (n : Nat) (g : Gd) (h : AD) (f : FuncId) (args : List AA) : Option (AA × AD) := (CR C n).call g h f args
end Go.Av
