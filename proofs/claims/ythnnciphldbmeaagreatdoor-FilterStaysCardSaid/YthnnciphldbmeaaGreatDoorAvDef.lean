/-
  ABS, 1: an abstract, deterministic, executable semantics of the intermediate code: abstract values, an abstract heap (a trie of objects), the operations. Definitions alone; nothing is proved here.
-/
import Derived.Calls
namespace Go.Av
inductive AD where
 | undef
 | bool (b : Bool)
 | int (k : IntKind) (n : Int)
 | str (s : List UInt8)
 | ptr (r : Option (Nat × Nat))
 | Ja (g o : Nat)
 | slice (r : Option (Nat × Nat)) (len : Nat)
 | map (r : Option Nat)
 | chan (r : Option Nat)
 | func (fn : Fn) (first captured : List AD)
 | nilFunc
 | iface (t : TypeId) (v : AD)
 | nilIface
 | agg (cs : List AD)
 | tuple (vs : List AD)
 | HN (n : Nat) (cs : List AD)
 | BC (cs : List AD)
 | KJ (l : Nat)
 deriving Inhabited
inductive CB where
 | cells (grow : Option TypeId) (st : Nat) (cs : List AD)
 | map (st : Nat) (es : List (AD × AD))
 | iter (s : List UInt8) (pos : Nat)
 | loop (st : Nat) (pend : Option Code) (f : FuncId) (fr : List AD) (ps : List Tmp) (a b : Code)
 | chan (cap : Nat) (buf : List AD)
 deriving Inhabited
inductive Tr (α : Type) where
 | leaf
 | node (l : Tr α) (v : Option α) (r : Tr α)
def Tr.get {α : Type} : Tr α → Nat → Option α
 | .leaf, _ => none
 | .node l v r, i => bif Nat.beq i 0 then v else bif Nat.beq (i % 2) 1 then l.get (i / 2) else r.get (i / 2 - 1)
def Tr.set {α : Type} : Nat → Tr α → Nat → α → Tr α
 | 0, t, _, _ => t
 | f + 1, .leaf, i, x => bif Nat.beq i 0 then .node .leaf (some x) .leaf else bif Nat.beq (i % 2) 1 then .node (Tr.set f .leaf (i / 2) x) none .leaf else .node .leaf none (Tr.set f .leaf (i / 2 - 1) x)
 | f + 1, .node l v r, i, x => bif Nat.beq i 0 then .node l (some x) r else bif Nat.beq (i % 2) 1 then .node (Tr.set f l (i / 2) x) v r else .node l v (Tr.set f r (i / 2 - 1) x)
structure AM where
 size : Nat
 tr : Tr CB
def AM.get (h : AM) (i : Nat) : Option CB := bif Nat.blt i h.size then h.tr.get i else none
def AM.set (h : AM) (i : Nat) (o : CB) : AM := ⟨h.size, Tr.set (i + 1) h.tr i o⟩
def AM.push (h : AM) (o : CB) : AM := ⟨h.size + 1, Tr.set (h.size + 1) h.tr h.size o⟩
structure Gd where
 floor : Nat
 Bm : List Nat
def Gd.may (g : Gd) (id : Nat) : Bool := Nat.ble g.floor id && !(g.Bm.any (Nat.beq id))
abbrev Fr := List AD
def nth : List AD → Nat → AD
 | [], _ => .tuple []
 | a :: _, 0 => a
 | _ :: l, i + 1 => nth l i
def put (fr : Fr) (dst : Option Tmp) (v : AD) : Fr :=
 match dst with
 | some d => fr.set d v
 | none => fr
def AD.one : AD → Bool
 | .undef | .agg _ | .tuple _ => false
 | _ => true
def AD.cells? : AD → Option (List AD)
 | .undef | .tuple _ => none
 | .agg cs => some cs
 | v => some [v]
def NW : Value → AD
 | .bool b => .bool b
 | .int k n => .int k n
 | .string s => .str s.data.toList
 | .pointer none => .ptr none
 | .slice none 0 0 => .slice none 0
 | .map none => .map none
 | .chan none => .chan none
 | .nilFunc => .nilFunc
 | .nilIface => .nilIface
 | _ => .undef
def VV : Value → AD
 | .agg cs => .agg (cs.toList.map NW)
 | .tuple vs => .tuple (vs.toList.map NW)
 | v => NW v
def ev (fr : Fr) : Operand → AD
 | .tmp t => nth fr t
 | .const v => VV v
 | .global g => .Ja g 0
 | .func f => .func (.func f) [] []
def Du (cs : List AD) (o : Nat) (new : List AD) : List AD := cs.take o ++ (new ++ cs.drop (o + new.length))
section
variable (P : Program)
def C5 (t : TypeId) : Option Nat := (P.info? t).map (·.size)
def KX (t : TypeId) : Option Bool :=
 match P.underlying t with
 | some (.struct _) | some (.array _ _) => some true
 | some _ => some false
 | none => none
def C8 (ob : Option CB) (o n : Nat) : Option (List AD) :=
 match ob with
 | some (.cells _ st cs) => if st ≠ 0 ∧ o + n ≤ cs.length then some ((cs.drop o).take n) else none
 | _ => none
def Gp (ob : Option CB) (t : TypeId) (o : Nat) : Option AD :=
 match KX P t with
 | some true => (C5 P t).bind fun n => (C8 ob o n).map .agg
 | some false =>
  match C8 ob o 1 with
  | some [v] => some v
  | _ => none
 | none => none
def Db (g : Gd) (h : AM) (id o : Nat) (new : List AD) : Option AM :=
 match h.get id with
 | some (.cells gr 2 cs) => if g.may id = true ∧ o + new.length ≤ cs.length ∧ new.all AD.one = true then some (h.set id (.cells gr 2 (Du cs o new))) else none
 | _ => none
def LM (g : Gd) (h : AM) (t : TypeId) (id o : Nat) (v : AD) : Option AM :=
 match v.cells?, C5 P t with
 | some new, some n => if new.length = n then Db g h id o new else none
 | _, _ => none
abbrev Us := (Nat → AD) × CB
def N8 (v : AD) : Option Us :=
 match v.cells? with
 | some cs => if cs.all AD.one = true then some (fun n => .ptr (some (n, 0)), .cells none 2 cs) else none
 | none => none
def HT (t : TypeId) : Option AD :=
 match P.info? t with
 | some i => i.zero.map VV
 | none => none
def Kd (place : Nat → Option (Nat × Nat)) (cells : List AD) : List (Nat × AD) → Option (List AD)
 | [] => some cells
 | (i, v) :: rest =>
  match place i, v.cells? with
  | some (off, size), some new => if new.length = size ∧ off + size ≤ cells.length then Kd place (Du cells off new) rest else none
  | _, _ => none
def RE (fs : List Field) : Option (List (Nat × Nat)) := fs.mapM fun f => (P.info? f.type).map fun i => (f.offset, i.size)
def Sk (t : TypeId) (parts : List (Nat × AD)) : Option AD :=
 match P.underlying t, (HT P t).bind AD.cells? with
 | some (.array _ e), some z => (C5 P e).bind fun n => (Kd (fun i => some (i * n, n)) z parts).map .agg
 | some (.struct fs), some z => (RE P fs.toList).bind fun ps => (Kd (ps[·]?) z parts).map .agg
 | _, _ => none
def Fi (z : List AD) : Nat → List AD
 | 0 => []
 | n + 1 => z ++ Fi z n
def Gl : AD → AD
 | .slice none 0 => .HN 0 []
 | v => v
def LG (t : TypeId) (len : Nat) (parts : List (Nat × AD)) : Option Us :=
 match P.underlying t with
 | some (.slice e) =>
  match C5 P e, (HT P e).bind AD.cells? with
  | some n, some z =>
   if len * n ≤ 16777216 ∧ z.length = n ∧ n ≠ 0 then
    match Kd (fun i => some (i * n, n)) (Fi z len) parts with
    | some cs => if (cs.map Gl).all AD.one = true then some (fun n => .slice (some (n, 0)) len, .cells (some e) 2 (cs.map Gl)) else none
    | none => none
   else none
  | _, _ => none
 | _ => none
def OZ (op : BinOp) (k : IntKind) (a b : Int) : Option AD :=
 match op with
 | .add => some (.int k (k.wrap (a + b)))
 | .sub => some (.int k (k.wrap (a - b)))
 | .mul => some (.int k (k.wrap (a * b)))
 | .quo => if b = 0 then none else some (.int k (k.wrap (a.tdiv b)))
 | .rem => if b = 0 then none else some (.int k (a.tmod b))
 | .and => some (.int k (k.wrap (BitVec.ofInt k.bits a &&& BitVec.ofInt k.bits b).toNat))
 | .or => some (.int k (k.wrap (BitVec.ofInt k.bits a ||| BitVec.ofInt k.bits b).toNat))
 | .xor => some (.int k (k.wrap (BitVec.ofInt k.bits a ^^^ BitVec.ofInt k.bits b).toNat))
 | .andNot => some (.int k (k.wrap (BitVec.ofInt k.bits a &&& ~~~BitVec.ofInt k.bits b).toNat))
 | .eql => some (.bool (a == b))
 | .neq => some (.bool (a != b))
 | .lss => some (.bool (decide (a < b)))
 | .leq => some (.bool (decide (a ≤ b)))
 | .gtr => some (.bool (decide (a > b)))
 | .geq => some (.bool (decide (a ≥ b)))
 | _ => none
def OT (op : BinOp) (k : IntKind) (a b : Int) : Option AD :=
 if b < 0 then none else
 match op with
 | .shl => some (.int k (k.wrap (a * 2 ^ (min b.toNat k.bits))))
 | .shr => some (.int k (a.fdiv (2 ^ (min b.toNat k.bits))))
 | _ => none
def Sc (op : BinOp) (a b : List UInt8) : Option AD :=
 match op with
 | .add => if a.length + b.length ≤ 9223372036854775807 then some (.str (a ++ b)) else none
 | .eql => some (.bool (a == b))
 | .neq => some (.bool !(a == b))
 | .lss => some (.bool (Op.bytesLess a b))
 | .leq => some (.bool (Op.bytesLess a b || a == b))
 | .gtr => some (.bool !(Op.bytesLess a b || a == b))
 | .geq => some (.bool !(Op.bytesLess a b))
 | _ => none
def Ka (t : TypeId) (cs : List AD) (off : Nat) : Option AD :=
 match KX P t with
 | some true => (C5 P t).bind fun n => if off + n ≤ cs.length then some (.agg ((cs.drop off).take n)) else none
 | some false => cs[off]?
 | none => none
def eqFields (eq : TypeId → AD → AD → Option Bool) (xs ys : List AD) : List Field → Option Bool
 | [] => some true
 | f :: fs =>
  if f.name = "_" then eqFields eq xs ys fs else
  match Ka P f.type xs f.offset, Ka P f.type ys f.offset with
  | some a, some b =>
   match eq f.type a b with
   | some true => eqFields eq xs ys fs
   | some false => some false
   | none => none
  | _, _ => none
def Mu (eq : TypeId → AD → AD → Option Bool) (e : TypeId) (z : Nat) (xs ys : List AD) : Nat → Nat → Option Bool
 | 0, _ => some true
 | n + 1, i =>
  match Ka P e xs (i * z), Ka P e ys (i * z) with
  | some a, some b =>
   match eq e a b with
   | some true => Mu eq e z xs ys n (i + 1)
   | some false => some false
   | none => none
  | _, _ => none
def IX : Nat → TypeId → AD → AD → Option Bool
 | 0, _, _, _ => none
 | d + 1, t, x, y =>
  match P.underlying t, x, y with
  | some .bool, .bool a, .bool b => some (a == b)
  | some (.int _), .int k a, .int k' b => if k = k' then some (a == b) else none
  | some .string, .str a, .str b => some (a == b)
  | some (.pointer _), .ptr none, .ptr b => some b.isNone
  | some (.pointer _), .ptr (some _), .ptr none => some false
  | some (.pointer _), .BC _, .ptr none => some false
  | some (.map _ _), .map none, .map b => some b.isNone
  | some (.map _ _), .map (some _), .map none => some false
  | some (.func _ _ _), .nilFunc, .nilFunc => some true
  | some (.func _ _ _), .nilFunc, .func _ _ _ => some false
  | some (.func _ _ _), .func _ _ _, .nilFunc => some false
  | some (.struct fs), .agg xs, .agg ys => if P.stoodInHeld t = true then none else eqFields P (IX d) xs ys fs.toList
  | some (.array n e), .agg xs, .agg ys => (C5 P e).bind fun z => Mu P (IX d) e z xs ys n 0
  | _, _, _ => none
def Uk : AD → Bool
 | .bool _ | .ptr _ | .slice _ _ | .map _ | .nilFunc | .func _ _ _ | .HN _ _ | .BC _ => true
 | _ => false
def SX (op : BinOp) (t : TypeId) (x y : AD) : Option AD :=
 match x, y with
 | .int k a, .int k' b =>
  match op with
  | .shl | .shr => OT op k a b
  | _ => if k = k' then OZ op k a b else none
 | .str a, .str b => Sc op a b
 | .agg xs, .agg ys =>
  if P.eqGuardType P.depth t = true then none else
  match op with
  | .eql => (IX P 10000 t (.agg xs) (.agg ys)).map .bool
  | .neq => (IX P 10000 t (.agg xs) (.agg ys)).map fun b => .bool !b
  | _ => none
 | x, y =>
  if Uk x = true then
   match op with
   | .eql => (IX P 10000 t x y).map .bool
   | .neq => (IX P 10000 t x y).map fun b => .bool !b
   | _ => none
  else none
def Ws : Operand → Bool
 | .const _ => true
 | _ => false
def XJ (op : BinOp) (t : TypeId) (c : Bool) : Option AD :=
 match P.underlying t with
 | some (.interface _) => bif c then (match op with | .eql => some (.bool true) | .neq => some (.bool false) | _ => none) else none
 | _ => none
def Ss (op : BinOp) (t : TypeId) (c : Bool) (x y : AD) : Option AD :=
 match x, y with
 | .nilIface, .nilIface => XJ P op t c
 | x, y => SX P op t x y
def YU (op : UnOp) (x : AD) : Option AD :=
 match op, x with
 | .neg, .int k n => OZ .sub k 0 n
 | .xor, .int k n => OZ .xor k (if k.signed then -1 else k.max) n
 | .not, .bool b => some (.bool !b)
 | _, _ => none
def bytesOf : List AD → Option (List UInt8)
 | [] => some []
 | .int .u8 n :: r => (bytesOf r).map (UInt8.ofNat n.toNat :: ·)
 | _ => none
def UE (src dst : TypeId) (x : AD) : Option AD :=
 match P.underlying src, P.underlying dst, x with
 | some _, some (.int k), .int _ n => some (.int k (k.wrap n))
 | some _, some .string, .str s => some (.str s)
 | some _, some .string, .int _ n => some (.str (Utf8.encode n).data.toList)
 | _, _, _ => none
def UY (src dst : TypeId) (x : AD) : Option Us :=
 match P.underlying src, P.underlying dst, x with
 | some _, some (.slice e), .str s =>
  match P.underlying e, C5 P e with
  | some (.int .u8), some 1 => if s.length ≤ 1099511627776 then some (fun n => .slice (some (n, 0)) s.length, .cells (some e) 2 (s.map fun b => .int .u8 b.toNat)) else none
  | _, _ => none
 | _, _, _ => none
def Pv (ob : Option CB) (src dst : TypeId) (x : AD) : Option AD :=
 match P.underlying src, P.underlying dst, x with
 | some (.slice e), some .string, .slice r n =>
  match P.underlying e with
  | some (.int .u8) =>
   match r with
   | none => some (.str [])
   | some (_, o) => if n = 0 then some (.str []) else (C8 ob o n).bind fun cs => (bytesOf cs).map .str
  | _ => none
 | some (.slice e), some .string, .HN n cs =>
  match P.underlying e with
  | some (.int .u8) => if cs.length = n then (bytesOf cs).map .str else none
  | _ => none
 | _, _, _ => none
def KU (t : TypeId) (l c : AD) : Option Us :=
 match P.underlying t, l, c with
 | some (.slice e), .int _ l, .int _ c =>
  match P.info? e with
  | some i =>
   match i.zero.map VV with
   | some z =>
    match z.cells?.map (·.map Gl) with
    | some zc =>
     if 0 ≤ l ∧ l ≤ c ∧ c ≤ 1099511627776 ∧ i.bytes * c ≤ 1099511627776 ∧ zc.length = i.size ∧ zc.all AD.one = true then
      some (fun n => .slice (some (n, 0)) l.toNat, .cells (some e) 2 (Fi zc c.toNat))
     else none
    | none => none
   | none => none
  | none => none
 | _, _, _ => none
def FK (n : Nat) (lo hi : Option AD) : Option (Nat × Nat) :=
 match hi with
 | some (.int _ u) =>
  if 0 ≤ u ∧ u ≤ n then
   match lo with
   | some (.int _ l) => if 0 ≤ l ∧ l ≤ u then some (l.toNat, u.toNat) else none
   | some _ => none
   | none => some (0, u.toNat)
  else none
 | some _ => none
 | none =>
  match lo with
  | some (.int _ l) => if 0 ≤ l ∧ l ≤ n then some (l.toNat, n) else none
  | some _ => none
  | none => some (0, n)
def Qg (t : TypeId) (x : AD) (lo hi : Option AD) : Option AD :=
 match P.underlying t, x with
 | some .string, .str s => (FK s.length lo hi).map fun (l, u) => .str ((s.drop l).take (u - l))
 | _, _ => none
def Qq (ob : Option CB) (t : TypeId) (x : AD) (lo hi : Option AD) : Option AD :=
 match P.underlying t, x with
 | some (.array n e), .ptr (some (id, o)) =>
  match ob with
  | some (.cells none _ _) => (C5 P e).bind fun z => (FK n lo hi).map fun (l, u) => .slice (some (id, o + l * z)) (u - l)
  | _ => none
 | some (.slice e), .slice none 0 => (C5 P e).bind fun _ => (FK 0 lo hi).map fun _ => .slice none 0
 | some (.slice e), .HN n cs => (C5 P e).bind fun z => if cs.length = n * z then (FK n lo hi).map fun (l, u) => .HN (u - l) ((cs.drop (l * z)).take ((u - l) * z)) else none
 | some (.slice e), .slice (some (id, o)) n =>
  match ob, C5 P e with
  | some (.cells none _ _), some z => (FK n lo hi).map fun (l, u) => .slice (some (id, o + l * z)) (u - l)
  | some (.cells (some e') _ _), some z => if C5 P e' = some z then (FK n lo hi).map fun (l, u) => .slice (some (id, o + l * z)) (u - l) else none
  | _, _ => none
 | _, _ => none
def ML (s : TypeId) (x : AD) (f : Nat) : Option AD :=
 match P.underlying s, x with
 | some (.struct fs), .ptr (some (id, o)) =>
  match fs[f]? with
  | some fd =>
   match C5 P fd.type with
   | some 0 => none
   | some _ => some (.ptr (some (id, o + fd.offset)))
   | none => none
  | none => none
 | some (.struct fs), .Ja g o =>
  match fs[f]? with
  | some fd =>
   match C5 P fd.type with
   | some 0 => none
   | some _ => some (.Ja g (o + fd.offset))
   | none => none
  | none => none
 | some (.struct fs), .BC cs =>
  match fs[f]? with
  | some fd =>
   match C5 P fd.type with
   | some 0 => none
   | some _ => some (.BC (cs.drop fd.offset))
   | none => none
  | none => none
 | _, _ => none
def Sq (s : TypeId) (x : AD) (f : Nat) : Option AD :=
 match P.underlying s, x with
 | some (.struct fs), .agg cs =>
  match fs[f]? with
  | some fd => Ka P fd.type cs fd.offset
  | none => none
 | _, _ => none
def Gk (t : TypeId) (x i : AD) : Option AD :=
 match P.underlying t, x, i with
 | some (.array n e), .ptr (some (id, o)), .int _ i => if 0 ≤ i ∧ i < n then (C5 P e).map fun z => .ptr (some (id, o + i.toNat * z)) else none
 | some (.slice e), .slice (some (id, o)) n, .int _ i => if 0 ≤ i ∧ i < n then (C5 P e).map fun z => .ptr (some (id, o + i.toNat * z)) else none
 | some (.array n e), .Ja g o, .int _ i => if 0 ≤ i ∧ i < n then (C5 P e).map fun z => .Ja g (o + i.toNat * z) else none
 | some (.array n e), .BC cs, .int _ i => if 0 ≤ i ∧ i < n then (C5 P e).map fun z => .BC (cs.drop (i.toNat * z)) else none
 | some (.slice e), .HN n cs, .int _ i => if 0 ≤ i ∧ i < n then (C5 P e).bind fun z => if cs.length = n * z ∧ z ≠ 0 then some (.BC ((cs.drop (i.toNat * z)).take z)) else none else none
 | _, _, _ => none
def Qv (t : TypeId) (x i : AD) : Option AD :=
 match P.underlying t, x, i with
 | some (.array n e), .agg cs, .int _ i => if 0 ≤ i ∧ i < n then (C5 P e).bind fun z => Ka P e cs (i.toNat * z) else none
 | some .string, .str s, .int _ i => if 0 ≤ i then (s[i.toNat]?).map fun b => .int .u8 b.toNat else none
 | _, _, _ => none
def D6 (h : AM) (z n : Nat) : AD → Option (List AD)
 | .slice (some (id, o)) _ => if n = 0 then some [] else C8 (h.get id) o (n * z)
 | .slice none _ => if n = 0 then some [] else none
 | .str s => if z = 1 then some ((s.take n).map fun b => .int .u8 b.toNat) else none
 | .HN n' cs => if n ≤ n' ∧ cs.length = n' * z then some (cs.take (n * z)) else none
 | _ => none
def PF : AD → Option Nat
 | .slice _ n => some n
 | .HN n _ => some n
 | .str s => some s.length
 | _ => none
def Ji : TypeDesc → Bool
 | .int _ => false
 | _ => true
def appendCore (g : Gd) (h : AM) (e : TypeId) (i : TypeInfo) (r : Option (Nat × Nat)) (sl n : Nat) (x : AD) : Option (AD × AM) :=
 if n = 0 then some (.slice r sl, h)
 else if i.size ≠ 0 ∧ sl + n ≤ 1099511627776 ∧ (sl + n) * i.bytes ≤ 1099511627776 ∧ i.zero.map (·.cells.size) = some i.size then
  match (D6 h i.size n x).map (·.map Gl), D6 h i.size sl (.slice r sl) with
  | some new, some old =>
   if (old ++ new).all AD.one = true then
    match r with
    | none => some (.slice (some (h.size, 0)) (sl + n), h.push (.cells (some e) 2 (old ++ new)))
    | some (id, _) =>
     match h.get id with
     | some (.cells (some e') 2 _) =>
      if g.may id = true ∧ e' = e then some (.slice (some (h.size, 0)) (sl + n), (h.set id (.cells (some e') 0 [])).push (.cells (some e) 2 (old ++ new)))
      else none
     | _ => none
   else none
  | _, _ => none
 else none
def M4 (g : Gd) (h : AM) (ts : Array TypeId) (s x : AD) : Option (AD × AM) :=
 match ts[0]?, ts[1]?, s, PF x with
 | some st, some xt, .slice r sl, some n =>
  match P.underlying st, P.underlying xt with
  | some (.slice e), some d =>
   match P.info? e with
   | some i => if Ji d = true then appendCore g h e i r sl n x else none
   | none => none
  | _, _ => none
 | _, _, _, _ => none
def TY (g : Gd) (h : AM) (ts : Array TypeId) (d x : AD) : Option (AD × AM) :=
 match ts[0]?, d, PF x with
 | some dt, .slice r dl, some sl =>
  match P.underlying dt with
  | some (.slice e) =>
   match C5 P e with
   | some z =>
    match D6 h z (min sl dl) x, r with
    | some new, some (id, o) => if min sl dl = 0 then some (.int .i64 0, h) else (Db g h id o new).map fun h' => (.int .i64 (min sl dl : Nat), h')
    | some _, none => if min sl dl = 0 then some (.int .i64 0, h) else none
    | none, _ => none
   | none => none
  | _ => none
 | _, _, _ => none
def Wa (ts : Array TypeId) (x : AD) : Option AD :=
 match ts[0]? with
 | none => none
 | some t =>
  match P.underlying t, x with
  | some .string, .str s => some (.int .i64 s.length)
  | some (.array n _), _ => some (.int .i64 n)
  | some (.slice _), .slice _ n => some (.int .i64 n)
  | some (.slice _), .HN n _ => some (.int .i64 n)
  | _, _ => none
def Uz (ob : Option CB) (ts : Array TypeId) (x : AD) : Option AD :=
 match ts[0]? with
 | none => none
 | some t =>
  match P.underlying t, x with
  | some (.map _ _), .map none => some (.int .i64 0)
  | some (.map _ _), .map (some _) =>
   match ob with
   | some (.map st es) => if st ≠ 0 then some (.int .i64 es.length) else none
   | _ => none
  | some (.chan _ _), .chan (some _) =>
   match ob with
   | some (.chan _ buf) => some (.int .i64 buf.length)
   | _ => none
  | _, _ => none
def Le (mx : Bool) : AD → List AD → Option AD
 | v, [] => some v
 | .int k a, .int k' b :: r => if k = k' then Le mx (.int k (if mx then (if b > a then b else a) else (if b < a then b else a))) r else none
 | _, _ => none
def Cx (t : TypeId) (k : AD) : List (AD × AD) → Nat → Option (Option (Nat × AD))
 | [], _ => some none
 | (k', v) :: es, i =>
  match IX P 10000 t k k' with
  | some true => some (some (i, v))
  | some false => Cx t k es (i + 1)
  | none => none
def Fk : Nat → TypeId → AD → Bool
 | 0, _, _ => false
 | d + 1, t, v =>
  match P.underlying t, v with
  | some (.int _), .int _ _ => true
  | some .string, .str _ => true
  | some .bool, .bool _ => true
  | some (.struct fs), .agg cs => fs.toList.all (fun f => f.name != "_" && (match Ka P f.type cs f.offset with | some x => Fk d f.type x | none => false))
  | some (.array n e), .agg cs => (match C5 P e with | some z => (List.range n).all (fun i => match Ka P e cs (i * z) with | some x => Fk d e x | none => false) | none => false)
  | _, _ => false
def La (ob : Option CB) (t : TypeId) (x k : AD) (ok : Bool) : Option AD :=
 match P.underlying t, x with
 | some (.map kt et), .map r =>
  if Fk P 20 kt k = true then
   match (match r with | none => some [] | some _ => match ob with | some (.map st es) => if st ≠ 0 then some es else none | _ => none) with
   | some es =>
    match Cx P kt k es 0 with
    | some (some (_, v)) => some (if ok then .tuple [v, .bool true] else v)
    | some none => (HT P et).map fun z => if ok then .tuple [z, .bool false] else z
    | none => none
   | none => none
  else none
 | _, _ => none
def OM : AD → AD → Bool
 | .int k a, .int k' b => decide (k = k') && a == b
 | .str a, .str b => a == b
 | .bool a, .bool b => a == b
 | _, _ => false
def Ly : AD → AD → Bool
 | .agg a, .agg b => a.length == b.length && (a.zip b).all fun p => OM p.1 p.2
 | x, y => OM x y
def F4 (g : Gd) (h : AM) : AD → Option (AD × AM)
 | .slice none 0 => some (.HN 0 [], h)
 | .slice (some (id, 0)) n =>
  bif Nat.beq n 0 then some (.HN 0 [], h) else
  match h.get id with
  | some (.cells gr 2 cs) => bif g.may id then some (.HN n cs, h.set id (.cells gr 0 cs)) else none
  | some (.cells _ 0 (c :: cs)) => some (.HN n (c :: cs), h)
  | _ => none
 | v => some (v, h)
def IW (g : Gd) (h : AM) (t : TypeId) (m k v : AD) : Option AM :=
 match P.underlying t, m with
 | some (.map kt _), .map (some id) =>
  if Fk P 20 kt k = true ∧ g.may id = true then
   match h.get id with
   | some (.map 2 es) =>
    match Cx P kt k es 0 with
    | some (some (i, _)) =>
     match es[i]? with
     | some (k', _) => if Ly k' k = true then some (h.set id (.map 2 (es.set i (k, v)))) else none
     | none => none
    | some none => some (h.set id (.map 2 (es ++ [(k, v)])))
    | none => none
   | _ => none
  else none
 | _, _ => none
def Gb (g : Gd) (h : AM) (t : TypeId) (m k v : AD) : Option AM := (F4 g h v).bind fun r => IW P g r.2 t m k r.1
def Lk (g : Gd) (h : AM) (ts : Array TypeId) (m k : AD) : Option AM :=
 match ts[0]? with
 | none => none
 | some t =>
  match P.underlying t, m with
  | some (.map kt _), .map (some id) =>
   if Fk P 20 kt k = true ∧ g.may id = true then
    match h.get id with
    | some (.map 2 es) =>
     match Cx P kt k es 0 with
     | some (some (i, _)) => some (h.set id (.map 2 (es.eraseIdx i)))
     | some none => some h
     | none => none
    | _ => none
   else none
  | _, _ => none
def BI : Op → Nat
 | .move _ | .assign _ | .pick .. | .build .. | .nilCheck _ | .binOp .. | .unOp .. | .makeFunc .. | .fieldAddr .. | .field .. | .indexAddr .. | .index .. | .extract .. => 0
 | .slice t .. => match P.underlying t with | some .string => 0 | _ => 1
 | .convert s d _ =>
  match P.underlying s, P.underlying d with
  | some (.slice _), some .string => 1
  | some (.slice _), some (.slice _) => 3
  | _, some (.slice _) => 2
  | _, _ => 0
 | .load .. | .lookup .. => 1
 | .alloc _ | .box .. | .buildSlice .. | .makeMap .. | .makeSlice .. | .range .. | .makeChan .. => 2
 | .call { callee := .builtin .len, argTypes := ts, .. } =>
  match ts[0]? with
  | some t => match P.underlying t with | some (.map _ _) => 1 | some (.chan _ _) => 1 | _ => 0
  | none => 0
 | .call { callee := .builtin .min, .. } | .call { callee := .builtin .max, .. } => 0
 | _ => 3
def I4 (fr : Fr) : Op → Option AD
 | .move x | .assign x => some (ev fr x)
 | .pick c a b =>
  match ev fr c with
  | .bool b' => some (bif b' then ev fr a else ev fr b)
  | _ => none
 | .build t parts => Sk P t (parts.toList.map fun (i, x) => (i, ev fr x))
 | .nilCheck x =>
  match ev fr x with
  | .ptr (some r) => some (.ptr (some r))
  | .Ja g o => some (.Ja g o)
  | .BC cs => some (.BC cs)
  | .func (.func f) a b => some (.func (.func f) a b)
  | _ => none
 | .binOp op t x y _ => Ss P op t (Ws x || Ws y) (ev fr x) (ev fr y)
 | .unOp op _ x => YU op (ev fr x)
 | .convert s d x => UE P s d (ev fr x)
 | .makeFunc fn first cap => some (.func fn (first.toList.map (ev fr)) (cap.toList.map (ev fr)))
 | .slice t x lo hi none => Qg P t (ev fr x) (lo.map (ev fr)) (hi.map (ev fr))
 | .fieldAddr s x f => ML P s (ev fr x) f
 | .field s x f => Sq P s (ev fr x) f
 | .indexAddr t x i => Gk P t (ev fr x) (ev fr i)
 | .index t x i => Qv P t (ev fr x) (ev fr i)
 | .extract x i =>
  match ev fr x with
  | .tuple vs => vs[i]?
  | _ => none
 | .call { callee := .builtin b, args := as, argTypes := ts } =>
  match b, as.toList.map (ev fr) with
  | .len, [x] => Wa P ts x
  | .min, x :: r => Le false x r
  | .max, x :: r => Le true x r
  | _, _ => none
 | _ => none
def FB : AD → Option Nat
 | .ptr (some (id, _)) => some id
 | .slice (some (id, _)) _ => some id
 | .map (some id) => some id
 | .chan (some id) => some id
 | _ => none
def Dj (fr : Fr) : Op → Option Nat
 | .load _ x => FB (ev fr x)
 | .slice _ x _ _ _ => FB (ev fr x)
 | .convert _ _ x => FB (ev fr x)
 | .lookup _ x _ _ => FB (ev fr x)
 | .call { args := as, .. } =>
  match as.toList with
  | [x] => FB (ev fr x)
  | _ => none
 | _ => none
def Kk (G : Nat → Option (List AD)) (fr : Fr) (ob : Option CB) : Op → Option AD
 | .load t a =>
  match ev fr a with
  | .ptr (some (_, o)) => Gp P ob t o
  | .Ja g o => Gp P ((G g).map fun cs => .cells none 1 cs) t o
  | .BC cs => Gp P (some (.cells none 1 cs)) t 0
  | _ => none
 | .slice t x lo hi none => Qq P ob t (ev fr x) (lo.map (ev fr)) (hi.map (ev fr))
 | .convert s d x => Pv P ob s d (ev fr x)
 | .lookup t x k ok => La P ob t (ev fr x) (ev fr k) ok
 | .call { callee := .builtin .len, args := as, argTypes := ts } =>
  match as.toList with
  | [x] => Uz P ob ts (ev fr x)
  | _ => none
 | _ => none
def PH (fr : Fr) : Op → Option Us
 | .alloc e => (HT P e).bind N8
 | .box _ x => N8 (ev fr x)
 | .buildSlice t len parts => LG P t len (parts.toList.map fun (i, x) => (i, ev fr x))
 | .convert s d x => UY P s d (ev fr x)
 | .makeMap _ none => some (fun n => .map (some n), .map 2 [])
 | .makeSlice t l c => KU P t (ev fr l) (ev fr c)
 | .makeChan t n =>
  match P.underlying t, ev fr n with
  | some (.chan _ e), .int _ n =>
   match P.info? e with
   | some i => if 0 ≤ n ∧ n ≤ 1099511627776 ∧ i.bytes * n ≤ 1099511627776 then some (fun k => .chan (some k), .chan n.toNat []) else none
   | none => none
  | _, _ => none
 | .range t x =>
  match P.underlying t, ev fr x with
  | some .string, .str s => some (fun n => .ptr (some (n, 0)), .iter s 0)
  | _, _ => none
 | _ => none
def S6 (g : Gd) (h : AM) (s d : TypeId) (x : AD) : Option (AD × AM) :=
 match P.underlying s, P.underlying d, x with
 | some (.slice _), some (.slice e), .slice (some (id, o)) n =>
  match P.underlying e, h.get id with
  | some (.int .u8), some (.cells gr 2 cs) => bif Nat.beq s d && (g.may id && !(Nat.beq n 0)) then some (.slice (some (id, o)) n, h.set id (.cells gr 2 cs)) else none
  | _, _ => none
 | _, _, _ => none
def Kp (g : Gd) (h : AM) (fr : Fr) : Op → Option (AD × AM)
 | .convert s d x => S6 P g h s d (ev fr x)
 | .store t a x =>
  match ev fr a with
  | .ptr (some (id, o)) => (LM P g h t id o (ev fr x)).map (.tuple [], ·)
  | _ => none
 | .mapUpdate t m k v | .insert t m k v => (Gb P g h t (ev fr m) (ev fr k) (ev fr v)).map (.tuple [], ·)
 | .next it true =>
  match ev fr it with
  | .ptr (some (id, 0)) =>
   match h.get id with
   | some (.iter s pos) =>
    if g.may id = true then
     if pos < s.length then
      some (.tuple [.bool true, .int .i64 pos, .int .i32 (Utf8.decode ⟨⟨s⟩⟩ pos).1], h.set id (.iter s (pos + (Utf8.decode ⟨⟨s⟩⟩ pos).2)))
     else some (.tuple [.bool false], h)
    else none
   | _ => none
  | _ => none
 | .call { callee := .builtin b, args := as, argTypes := ts } =>
  match b, as.toList.map (ev fr) with
  | .append, [s, x] => M4 P g h ts s x
  | .copy, [d, x] => TY P g h ts d x
  | .delete, [m, k] => (Lk P g h ts m k).map (.tuple [], ·)
  | _, _ => none
 | _ => none
def Il (G : Nat → Option (List AD)) (g : Gd) (h : AM) (fr : Fr) (op : Op) : Option (AD × AM) :=
 match BI P op with
 | 0 => (I4 P fr op).map (·, h)
 | 1 =>
  match Dj fr op with
  | none => (Kk P G fr none op).map (·, h)
  | some id =>
   match h.get id with
   | some ob => (Kk P G fr (some ob) op).map (·, h)
   | none => none
 | 2 => (PH P fr op).map fun x => (x.1 h.size, h.push x.2)
 | _ => Kp P g h fr op
end
structure Hj where
 P : Program
 kind : Nat → Nat
 MF : Nat → Nat → List (Nat × List Nat)
 ext : Nat → Gd → AM → List AD → Option (AD × AM)
 EN : Nat → Option (List AD) := fun _ => none
 V6 : FuncId → Code → Code → Bool := fun _ _ _ => false
 still : FuncId → List Bool := fun _ => []
inductive DK where
 | normal
 | exit (id : Nat)
 | ret
structure Self where
 call : Gd → AM → FuncId → List AD → Option (AD × AM)
 loop : Gd → FuncId → Code → Fr → AM → Option (DK × Fr × AM)
 round : Gd → AM → Nat → List AD → Option (AD × AM)
section
variable (C : Hj) (S : Self)
def Bl (g : Gd) (h : AM) (fr : Fr) (op : Op) : Option (AD × AM) :=
 match op with
 | .call { callee := .value x, args := as, .. } =>
  match ev fr x with
  | .func (.func f) first cap => S.call g h f (first ++ (as.toList.map (ev fr) ++ cap))
  | .KJ l => S.round g h l (as.toList.map (ev fr))
  | _ => none
 | op => Il C.P C.EN g h fr op
def Cz (ops : Array Oper) (fr : Fr) (o : Oper) : Option Bool :=
 match o.guard with
 | none => some true
 | some (j, want) =>
  match (ops[j]?).bind (·.dst) with
  | none => some false
  | some d =>
   match nth fr d with
   | .bool b => some (b == want)
   | .undef => none
   | _ => some false
def Gg (g : Gd) (ops : Array Oper) : List Oper → Fr → AM → Option (Fr × AM)
 | [], fr, h => some (fr, h)
 | o :: rest, fr, h =>
  match Cz ops fr o with
  | some true =>
   match Bl C S g h fr o.op with
   | some (v, h') => Gg g ops rest (put fr o.dst v) h'
   | none => none
  | some false => Gg g ops rest (put fr o.dst (.tuple [])) h
  | none => none
def H8 (tch : List (Nat × Nat)) (U : List Nat) : List Nat := tch.filterMap fun (i, id) => bif U.any (Nat.beq i) then some id else none
def GZ (P : Program) (h : AM) (fr : Fr) (i : Nat) (op : Op) (tch : List (Nat × Nat)) : List (Nat × Nat) :=
 match BI P op with
 | 1 => match Dj fr op with | some id => (i, id) :: tch | none => tch
 | 2 => (i, h.size) :: tch
 | _ => tch
def U0 : AD → AD → Bool
 | .ptr (some (a, b)), .ptr (some (c, d)) => Nat.beq a c && Nat.beq b d
 | .int k a, .int k' b => decide (k = k') && decide (a = b)
 | .bool a, .bool b => a == b
 | .str a, .str b => decide (a = b)
 | .HN 0 [], .HN 0 [] => true
 | _, _ => false
def WH (ops : Array Oper) (fr : Fr) (h : AM) (i : Nat) : Bool :=
 match ops[i]? with
 | some o =>
  match Cz ops fr o with
  | some false => true
  | some true =>
   match o.dst, Dj fr o.op with
   | some d, some id =>
    Nat.blt d fr.length && (match h.get id with
     | some ob => (match Kk C.P C.EN fr (some ob) o.op with | some v => U0 v (nth fr d) | none => false)
     | none => false)
   | _, _ => false
  | none => false
 | none => false
def N4 (ops : Array Oper) (U : List Nat) (fr : Fr) (h : AM) : Bool := U.all fun u => Nat.blt u 10000 || WH C ops fr h (u - 10000)
def Cy (g : Gd) (ops : Array Oper) : List (Nat × List Nat) → List (Nat × Nat) → Fr → AM → Option (Fr × AM)
 | [], _, fr, h => some (fr, h)
 | (i, U) :: rest, tch, fr, h =>
  match ops[i]? with
  | none => none
  | some o =>
   match Cz ops fr o with
   | some true =>
    match Bl C S ⟨g.floor, H8 tch U ++ g.Bm⟩ h fr o.op with
    | some (v, h') => bif N4 C ops U (put fr o.dst v) h' then Cy g ops rest (GZ C.P h fr i o.op tch) (put fr o.dst v) h' else none
    | none => none
   | some false => Cy g ops rest tch (put fr o.dst (.tuple [])) h
   | none => none
def NG (P : Program) (f : FuncId) : Bool :=
 match P.funcs[f]? with
 | some fn => fn.body.isSome && !(fn.name == "runtime.NumGoroutine")
 | none => false
def Bd (f : FuncId) (g : Gd) : Code → Fr → AM → Option (DK × Fr × AM)
 | .skip, fr, h => some (.normal, fr, h)
 | .label _, fr, h => some (.normal, fr, h)
 | .region id ops draw, fr, h =>
  match (bif draw then Cy C S g ops (C.MF f id) [] fr h else Gg C S g ops ops.toList fr h) with
  | some (fr', h') => some (.normal, fr', h')
  | none => none
 | .seq a b, fr, h =>
  match Bd f g a fr h with
  | some (.normal, fr', h') => Bd f g b fr' h'
  | r => r
 | .cond c a b, fr, h =>
  match ev fr c with
  | .bool true => Bd f g a fr h
  | .bool false => Bd f g b fr h
  | _ => none
 | .block id c, fr, h =>
  match Bd f g c fr h with
  | some (.exit i, fr', h') => bif Nat.beq i id then some (.normal, fr', h') else some (.exit i, fr', h')
  | r => r
 | .loop c, fr, h =>
  match Bd f g c fr h with
  | some (.normal, fr', h') => S.loop g f c fr' h'
  | r => r
 | .scope c, fr, h => Bd f g c fr h
 | .exit id, fr, h => some (.exit id, fr, h)
 | .ret, fr, h => some (.ret, fr, h)
 | .rangeFunc x ps a b, fr, h =>
  match ev fr x with
  | .func (.func f') first cap =>
   bif !NG C.P f' then none else
   match S.call g (h.push (.loop 0 none f fr ps.toList a b)) f' (first ++ ([.KJ h.size] ++ cap)) with
   | some (_, h2) =>
    match h2.get h.size with
    | some (.loop st pend f2 fr2 ps2 a2 b2) =>
     bif Nat.beq st 1 || !g.may h.size then none else
     match pend with
     | none => some (.normal, fr, h2.set h.size (.loop 3 pend f2 fr2 ps2 a2 b2))
     | some .ret => some (.ret, fr, h2.set h.size (.loop 3 pend f2 fr2 ps2 a2 b2))
     | some (.exit i) => some (.exit i, fr, h2.set h.size (.loop 3 pend f2 fr2 ps2 a2 b2))
     | _ => none
    | _ => none
   | none => none
  | _ => none
 | _, _, _ => none
def LV : List Tmp → List AD → Fr → Fr
 | p :: ps, v :: vs, fr => LV ps vs (fr.set p v)
 | _, _, fr => fr
def Xy : Option Code → Nat
 | none => 0
 | some _ => 2
def Gu (g : Gd) (l : Nat) (j : Option Code) (h : AM) : Option (AD × AM) :=
 match h.get l with
 | some (.loop _ _ f fr ps a b) => bif g.may l then some (.bool j.isNone, h.set l (.loop (Xy j) j f fr ps a b)) else none
 | _ => none
def K7 (g : Gd) (h : AM) (l : Nat) (args : List AD) : Option (AD × AM) :=
 match h.get l with
 | some (.loop 0 _ f fr ps a b) =>
  bif Nat.beq args.length ps.length && (g.may l && C.V6 f a b) then
   match Bd C S f g a (LV ps args fr) h with
   | some (.normal, fr1, h1) =>
    match h1.get l with
    | some (.loop 0 pend f2 fr2 ps2 a2 b2) =>
     match Bd C S f g b fr1 (h1.set l (.loop 1 pend f2 fr2 ps2 a2 b2)) with
     | some (.normal, _, h3) => Gu g l none h3
     | some (.ret, _, h3) => Gu g l (some .ret) h3
     | some (.exit i, _, h3) => Gu g l (some (.exit i)) h3
     | none => none
    | _ => none
   | _ => none
  else none
 | _ => none
def VL (P : Program) (g : Gd) (h : AM) (fr : Fr) : Op → Option (AD × AM)
 | .select cases blocking =>
  match cases.toList, blocking with
  | [c], false =>
   match HT P c.elem with
   | some z =>
    match ev fr c.chan with
    | .chan (some id) =>
     match h.get id with
     | some (.chan cap buf) =>
      match c.send with
      | some x =>
       bif Nat.ble cap buf.length then some (.tuple [.int .i64 (-1), .bool false], h)
       else bif g.may id then some (.tuple [.int .i64 0, .bool false], h.set id (.chan cap (buf ++ [ev fr x])))
       else none
      | none =>
       match buf with
       | v :: rest => bif g.may id then some (.tuple [.int .i64 0, .bool true, v], h.set id (.chan cap rest)) else none
       | [] => some (.tuple [.int .i64 (-1), .bool false, z], h)
     | _ => none
    | _ => none
   | none => none
  | _, _ => none
 | _ => none
def LQ : Code → Bool
 | .region _ ops draw => !draw && (match ops[0]? with | some o => (match o.op with | .select _ _ => o.guard.isNone | _ => false) | none => false)
 | _ => false
def JW (g : Gd) : Code → Fr → AM → Option (DK × Fr × AM)
 | .region _ ops _, fr, h =>
  match ops.toList with
  | o :: rest =>
   match VL C.P g h fr o.op with
   | some (v, h') =>
    match Gg C S g ops rest (put fr o.dst v) h' with
    | some (fr', h') => some (.normal, fr', h')
    | none => none
   | none => none
  | [] => none
 | _, _, _ => none
def JL (f : FuncId) (g : Gd) : Code → Fr → AM → Option (DK × Fr × AM)
 | .seq a b, fr, h =>
  match JL f g a fr h with
  | some (.normal, fr', h') => JL f g b fr' h'
  | r => r
 | c, fr, h => bif LQ c then JW C S g c fr h else Bd C S f g c fr h
def Hh (P : Program) (fr : Fr) (h : AM) : ResultVar → Option AD
 | .tmp t => some (nth fr t)
 | .cell a t =>
  match nth fr a with
  | .ptr (some (id, o)) => Gp P (h.get id) t o
  | _ => none
def GS (P : Program) (fn : Func) (fr : Fr) (h : AM) : Option AD :=
 match fn.results.toList.mapM (Hh P fr h) with
 | some [v] => some v
 | some vs => some (.tuple vs)
 | none => none
def GD : AD → Bool
 | .bool _ | .int _ _ | .str _ | .ptr none | .slice none _ | .map none | .chan none | .nilFunc | .nilIface => true
 | _ => false
def Ic : AD → Bool
 | .agg cs => cs.all GD
 | v => GD v
def Mg : AD → Bool
 | .tuple vs => vs.all Ic
 | v => Ic v
def I0 (g : Gd) (h : AM) (f : FuncId) (args : List AD) : Option (AD × AM) :=
 match C.P.funcs[f]? with
 | none => none
 | some fn =>
  match fn.body with
  | none => none
  | some c =>
   match Bd C S f g c (args ++ List.replicate (fn.ntmps - args.length) (.tuple [])) h with
   | some (.normal, fr, h') => (GS C.P fn fr h').map (·, h')
   | some (.ret, fr, h') => (GS C.P fn fr h').map (·, h')
   | _ => none
def QB (g : Gd) (h : AM) (f : FuncId) (args : List AD) : Option (AD × AM) :=
 match C.P.funcs[f]? with
 | none => none
 | some fn =>
  match fn.body with
  | none => none
  | some c =>
   match JL C S f g c (args ++ List.replicate (fn.ntmps - args.length) (.tuple [])) h with
   | some (.normal, fr, h') => (GS C.P fn fr h').map (·, h')
   | some (.ret, fr, h') => (GS C.P fn fr h').map (·, h')
   | _ => none
def Ix (f : AM → AD → Option (AD × AM)) : List AD → AM → Option (List AD × AM)
 | [], h => some ([], h)
 | v :: vs, h =>
  match f h v with
  | some (v', h1) => (Ix f vs h1).map fun r => (v' :: r.1, r.2)
  | none => none
def NI (g : Gd) (h : AM) : AD → Option (AD × AM)
 | .agg cs => (Ix (F4 g) cs h).map fun r => (.agg r.1, r.2)
 | v => F4 g h v
def PT (g : Gd) (h : AM) : AD → Option (AD × AM)
 | .tuple vs => (Ix (NI g) vs h).map fun r => (.tuple r.1, r.2)
 | v => NI g h v
def K9 (g : Gd) (h : AM) : AD → Option (AD × AM)
 | .ptr (some (id, 0)) =>
  match h.get id with
  | some (.cells none 2 cs) => bif g.may id then (Ix (F4 g) cs (h.set id (.cells none 0 cs))).map fun r => (.BC r.1, r.2) else none
  | _ => none
 | v => NI g h v
def Rc (g : Gd) (h : AM) : AD → Option (AD × AM)
 | .tuple vs => (Ix (K9 g) vs h).map fun r => (.tuple r.1, r.2)
 | v => K9 g h v
def UW : AD → AD
 | .agg cs => .agg (cs.map Gl)
 | v => Gl v
def BH : List Bool → List AD → List AD
 | true :: bs, v :: vs => UW v :: BH bs vs
 | false :: bs, v :: vs => v :: BH bs vs
 | _, vs => vs
def IH (g : Gd) (h : AM) (f : FuncId) (args : List AD) : Option (AD × AM) :=
 match C.kind f with
 | 1 => I0 C S g h f (BH (C.still f) args)
 | 2 =>
  match I0 C S ⟨h.size, []⟩ h f args with
  | some (v, _) => bif Mg v then some (v, h) else none
  | none => none
 | 3 => C.ext f g h args
 | 4 =>
  bif args.all Ic then
   match I0 C S ⟨0, []⟩ ⟨0, .leaf⟩ f args with
   | some (v, _) => bif Mg v then some (v, h) else none
   | none => none
  else none
 | 7 =>
  match I0 C S g h f (BH (C.still f) args) with
  | some (v, h') => PT g h' v
  | none => none
 | 8 => QB C S g h f (BH (C.still f) args)
 | 9 =>
  match I0 C S g h f (BH (C.still f) args) with
  | some (v, h') => Rc g h' v
  | none => none
 | _ => none
end
def DZ (C : Hj) : Nat → Self
 | 0 => ⟨fun _ _ _ _ => none, fun _ _ _ _ _ => none, fun _ _ _ _ => none⟩
 | n + 1 => ⟨IH C (DZ C n), fun g f c => Bd C (DZ C n) f g (.loop c), K7 C (DZ C n)⟩
def XY (C : Hj) (n : Nat) (g : Gd) (h : AM) (f : FuncId) (args : List AD) : Option (AD × AM) := (DZ C n).call g h f args
end Go.Av
