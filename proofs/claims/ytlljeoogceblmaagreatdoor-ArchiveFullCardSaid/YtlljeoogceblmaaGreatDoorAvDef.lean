/-
 A part.
-/
import Derived.Calls
namespace Go.Av
inductive AB where
 | undef
 | bool (b : Bool)
 | int (k : IntKind) (n : Int)
 | str (s : List UInt8)
 | ptr (r : Option (Nat × Nat))
 | IQ (g o : Nat)
 | slice (r : Option (Nat × Nat)) (len : Nat)
 | map (r : Option Nat)
 | chan (r : Option Nat)
 | func (fn : Fn) (first captured : List AB)
 | nilFunc
 | iface (t : TypeId) (v : AB)
 | nilIface
 | agg (cs : List AB)
 | tuple (vs : List AB)
 | Gt (n : Nat) (cs : List AB)
 | An (cs : List AB)
 | VJ (l : Nat)
 deriving Inhabited
inductive CJ where
 | cells (grow : Option TypeId) (st : Nat) (cs : List AB)
 | map (st : Nat) (es : List (AB × AB))
 | iter (s : List UInt8) (pos : Nat)
 | loop (st : Nat) (pend : Option Code) (f : FuncId) (fr : List AB) (ps : List Tmp) (a b : Code)
 | chan (cap : Nat) (buf : List AB)
 deriving Inhabited
inductive Tr (α : Type) where
 | leaf
 | node (l : Tr α) (v : Option α) (r : Tr α)
def Tr.get {α : Type} : Tr α → Nat → Option α
 | .leaf, _ => none
 | .node l v r, i => bif Nat.beq i 0 then v else bif Nat.beq (i % 2) 1 then l.get (i / 2) else r.get (i / 2 - 1)
def Tr.set {α : Type} : Nat → Tr α → Nat → α → Tr α
 | 0, t, _, _ => t
 | f + 1, .leaf, i, x => bif Nat.beq i 0 then .node .leaf (some x) .leaf else bif Nat.beq (i % 2) 1 then .node (Tr.set f .leaf (i / 2) x) none .leaf else .node .leaf none (Tr.set f .leaf (i / 2 - 1) x)
 | f + 1, .node l v r, i, x => bif Nat.beq i 0 then .node l (some x) r else bif Nat.beq (i % 2) 1 then .node (Tr.set f l (i / 2) x) v r else .node l v (Tr.set f r (i / 2 - 1) x)
structure AF where
 size : Nat
 tr : Tr CJ
def AF.get (h : AF) (i : Nat) : Option CJ := bif Nat.blt i h.size then h.tr.get i else none
def AF.set (h : AF) (i : Nat) (o : CJ) : AF := ⟨h.size, Tr.set (i + 1) h.tr i o⟩
def AF.push (h : AF) (o : CJ) : AF := ⟨h.size + 1, Tr.set (h.size + 1) h.tr h.size o⟩
structure Gd where
 floor : Nat
 CD : List Nat
def Gd.may (g : Gd) (id : Nat) : Bool := Nat.ble g.floor id && !(g.CD.any (Nat.beq id))
abbrev Fr := List AB
def nth : List AB → Nat → AB
 | [], _ => .tuple []
 | a :: _, 0 => a
 | _ :: l, i + 1 => nth l i
def put (fr : Fr) (dst : Option Tmp) (v : AB) : Fr :=
 match dst with
 | some d => fr.set d v
 | none => fr
def AB.one : AB → Bool
 | .undef | .agg _ | .tuple _ => false
 | _ => true
def AB.cells? : AB → Option (List AB)
 | .undef | .tuple _ => none
 | .agg cs => some cs
 | v => some [v]
def MD : Value → AB
 | .bool b => .bool b
 | .int k n => .int k n
 | .string s => .str s.data.toList
 | .pointer none => .ptr none
 | .slice none 0 0 => .slice none 0
 | .map none => .map none
 | .chan none => .chan none
 | .nilFunc => .nilFunc
 | .nilIface => .nilIface
 | _ => .undef
def VC : Value → AB
 | .agg cs => .agg (cs.toList.map MD)
 | .tuple vs => .tuple (vs.toList.map MD)
 | v => MD v
def ev (fr : Fr) : Operand → AB
 | .tmp t => nth fr t
 | .const v => VC v
 | .global g => .IQ g 0
 | .func f => .func (.func f) [] []
def Ds (cs : List AB) (o : Nat) (new : List AB) : List AB := cs.take o ++ (new ++ cs.drop (o + new.length))
section
variable (P : Program)
def CQ (t : TypeId) : Option Nat := (P.info? t).map (·.size)
def Ig (t : TypeId) : Option Bool :=
 match P.underlying t with
 | some (.struct _) | some (.array _ _) => some true
 | some _ => some false
 | none => none
def CP (ob : Option CJ) (o n : Nat) : Option (List AB) :=
 match ob with
 | some (.cells _ st cs) => if st ≠ 0 ∧ o + n ≤ cs.length then some ((cs.drop o).take n) else none
 | _ => none
def GH (ob : Option CJ) (t : TypeId) (o : Nat) : Option AB :=
 match Ig P t with
 | some true => (CQ P t).bind fun n => (CP ob o n).map .agg
 | some false =>
  match CP ob o 1 with
  | some [v] => some v
  | _ => none
 | none => none
def Em : AB → AB
 | .slice none 0 => .Gt 0 []
 | v => v
def LU : Option TypeId → List AB → List AB
 | none, l => l
 | some _, l => l.map Em
def Ci (g : Gd) (h : AF) (id o : Nat) (new : List AB) : Option AF :=
 match h.get id with
 | some (.cells gr 2 cs) => if g.may id = true ∧ o + new.length ≤ cs.length ∧ new.all AB.one = true then some (h.set id (.cells gr 2 (Ds cs o (LU gr new)))) else none
 | _ => none
def KL (g : Gd) (h : AF) (t : TypeId) (id o : Nat) (v : AB) : Option AF :=
 match v.cells?, CQ P t with
 | some new, some n => if new.length = n then Ci g h id o new else none
 | _, _ => none
abbrev Uw := (Nat → AB) × CJ
def M8 (v : AB) : Option Uw :=
 match v.cells? with
 | some cs => if cs.all AB.one = true then some (fun n => .ptr (some (n, 0)), .cells none 2 cs) else none
 | none => none
def Fm (t : TypeId) : Option AB :=
 match P.info? t with
 | some i => i.zero.map VC
 | none => none
def Jb (place : Nat → Option (Nat × Nat)) (cells : List AB) : List (Nat × AB) → Option (List AB)
 | [] => some cells
 | (i, v) :: rest =>
  match place i, v.cells? with
  | some (off, size), some new => if new.length = size ∧ off + size ≤ cells.length then Jb place (Ds cells off new) rest else none
  | _, _ => none
def Pu (fs : List Field) : Option (List (Nat × Nat)) := fs.mapM fun f => (P.info? f.type).map fun i => (f.offset, i.size)
def Rh (t : TypeId) (parts : List (Nat × AB)) : Option AB :=
 match P.underlying t, (Fm P t).bind AB.cells? with
 | some (.array _ e), some z => (CQ P e).bind fun n => (Jb (fun i => some (i * n, n)) z parts).map .agg
 | some (.struct fs), some z => (Pu P fs.toList).bind fun ps => (Jb (ps[·]?) z parts).map .agg
 | _, _ => none
def Ec (z : List AB) : Nat → List AB
 | 0 => []
 | n + 1 => z ++ Ec z n
def KO (t : TypeId) (len : Nat) (parts : List (Nat × AB)) : Option Uw :=
 match P.underlying t with
 | some (.slice e) =>
  match CQ P e, (Fm P e).bind AB.cells? with
  | some n, some z =>
   if len * n ≤ 16777216 ∧ z.length = n ∧ n ≠ 0 then
    match Jb (fun i => some (i * n, n)) (Ec z len) parts with
    | some cs => if (cs.map Em).all AB.one = true then some (fun n => .slice (some (n, 0)) len, .cells (some e) 2 (cs.map Em)) else none
    | none => none
   else none
  | _, _ => none
 | _ => none
def NV (op : BinOp) (k : IntKind) (a b : Int) : Option AB :=
 match op with
 | .add => some (.int k (k.wrap (a + b)))
 | .sub => some (.int k (k.wrap (a - b)))
 | .mul => some (.int k (k.wrap (a * b)))
 | .quo => if b = 0 then none else some (.int k (k.wrap (a.tdiv b)))
 | .rem => if b = 0 then none else some (.int k (a.tmod b))
 | .and => some (.int k (k.wrap (BitVec.ofInt k.bits a &&& BitVec.ofInt k.bits b).toNat))
 | .or => some (.int k (k.wrap (BitVec.ofInt k.bits a ||| BitVec.ofInt k.bits b).toNat))
 | .xor => some (.int k (k.wrap (BitVec.ofInt k.bits a ^^^ BitVec.ofInt k.bits b).toNat))
 | .andNot => some (.int k (k.wrap (BitVec.ofInt k.bits a &&& ~~~BitVec.ofInt k.bits b).toNat))
 | .eql => some (.bool (a == b))
 | .neq => some (.bool (a != b))
 | .lss => some (.bool (decide (a < b)))
 | .leq => some (.bool (decide (a ≤ b)))
 | .gtr => some (.bool (decide (a > b)))
 | .geq => some (.bool (decide (a ≥ b)))
 | _ => none
def Pm (op : BinOp) (k : IntKind) (a b : Int) : Option AB :=
 if b < 0 then none else
 match op with
 | .shl => some (.int k (k.wrap (a * 2 ^ (min b.toNat k.bits))))
 | .shr => some (.int k (a.fdiv (2 ^ (min b.toNat k.bits))))
 | _ => none
def PY (op : BinOp) (a b : List UInt8) : Option AB :=
 match op with
 | .add => if a.length + b.length ≤ 9223372036854775807 then some (.str (a ++ b)) else none
 | .eql => some (.bool (a == b))
 | .neq => some (.bool !(a == b))
 | .lss => some (.bool (Op.bytesLess a b))
 | .leq => some (.bool (Op.bytesLess a b || a == b))
 | .gtr => some (.bool !(Op.bytesLess a b || a == b))
 | .geq => some (.bool !(Op.bytesLess a b))
 | _ => none
def II (t : TypeId) (cs : List AB) (off : Nat) : Option AB :=
 match Ig P t with
 | some true => (CQ P t).bind fun n => if off + n ≤ cs.length then some (.agg ((cs.drop off).take n)) else none
 | some false => cs[off]?
 | none => none
def eqFields (eq : TypeId → AB → AB → Option Bool) (xs ys : List AB) : List Field → Option Bool
 | [] => some true
 | f :: fs =>
  if f.name = "_" then eqFields eq xs ys fs else
  match II P f.type xs f.offset, II P f.type ys f.offset with
  | some a, some b =>
   match eq f.type a b with
   | some true => eqFields eq xs ys fs
   | some false => some false
   | none => none
  | _, _ => none
def LZ (eq : TypeId → AB → AB → Option Bool) (e : TypeId) (z : Nat) (xs ys : List AB) : Nat → Nat → Option Bool
 | 0, _ => some true
 | n + 1, i =>
  match II P e xs (i * z), II P e ys (i * z) with
  | some a, some b =>
   match eq e a b with
   | some true => LZ eq e z xs ys n (i + 1)
   | some false => some false
   | none => none
  | _, _ => none
def Ho : Nat → TypeId → AB → AB → Option Bool
 | 0, _, _, _ => none
 | d + 1, t, x, y =>
  match P.underlying t, x, y with
  | some .bool, .bool a, .bool b => some (a == b)
  | some (.int _), .int k a, .int k' b => if k = k' then some (a == b) else none
  | some .string, .str a, .str b => some (a == b)
  | some (.pointer _), .ptr none, .ptr b => some b.isNone
  | some (.pointer _), .ptr (some _), .ptr none => some false
  | some (.pointer _), .An _, .ptr none => some false
  | some (.map _ _), .map none, .map b => some b.isNone
  | some (.map _ _), .map (some _), .map none => some false
  | some (.func _ _ _), .nilFunc, .nilFunc => some true
  | some (.func _ _ _), .nilFunc, .func _ _ _ => some false
  | some (.func _ _ _), .func _ _ _, .nilFunc => some false
  | some (.struct fs), .agg xs, .agg ys => if P.stoodInHeld t = true then none else eqFields P (Ho d) xs ys fs.toList
  | some (.array n e), .agg xs, .agg ys => (CQ P e).bind fun z => LZ P (Ho d) e z xs ys n 0
  | _, _, _ => none
def Uk : AB → Bool
 | .bool _ | .ptr _ | .slice _ _ | .map _ | .nilFunc | .func _ _ _ | .Gt _ _ | .An _ => true
 | _ => false
def T0 (op : BinOp) (t : TypeId) (x y : AB) : Option AB :=
 match x, y with
 | .int k a, .int k' b =>
  match op with
  | .shl | .shr => Pm op k a b
  | _ => if k = k' then NV op k a b else none
 | .str a, .str b => PY op a b
 | .agg xs, .agg ys =>
  if P.eqGuardType P.depth t = true then none else
  match op with
  | .eql => (Ho P 10000 t (.agg xs) (.agg ys)).map .bool
  | .neq => (Ho P 10000 t (.agg xs) (.agg ys)).map fun b => .bool !b
  | _ => none
 | x, y =>
  if Uk x = true then
   match op with
   | .eql => (Ho P 10000 t x y).map .bool
   | .neq => (Ho P 10000 t x y).map fun b => .bool !b
   | _ => none
  else none
def Wa : Operand → Bool
 | .const _ => true
 | _ => false
def Xa (op : BinOp) (t : TypeId) (c : Bool) : Option AB :=
 match P.underlying t with
 | some (.interface _) => bif c then (match op with | .eql => some (.bool true) | .neq => some (.bool false) | _ => none) else none
 | _ => none
def Ub (op : BinOp) (t : TypeId) (c : Bool) (x y : AB) : Option AB :=
 match x, y with
 | .nilIface, .nilIface => Xa P op t c
 | x, y => T0 P op t x y
def ZD (op : UnOp) (x : AB) : Option AB :=
 match op, x with
 | .neg, .int k n => NV .sub k 0 n
 | .xor, .int k n => NV .xor k (if k.signed then -1 else k.max) n
 | .not, .bool b => some (.bool !b)
 | _, _ => none
def bytesOf : List AB → Option (List UInt8)
 | [] => some []
 | .int .u8 n :: r => (bytesOf r).map (UInt8.ofNat n.toNat :: ·)
 | _ => none
def TL (src dst : TypeId) (x : AB) : Option AB :=
 match P.underlying src, P.underlying dst, x with
 | some _, some (.int k), .int _ n => some (.int k (k.wrap n))
 | some _, some .string, .str s => some (.str s)
 | some _, some .string, .int _ n => some (.str (Utf8.encode n).data.toList)
 | _, _, _ => none
def Sc (src dst : TypeId) (x : AB) : Option Uw :=
 match P.underlying src, P.underlying dst, x with
 | some _, some (.slice e), .str s =>
  match P.underlying e, CQ P e with
  | some (.int .u8), some 1 => if s.length ≤ 1099511627776 then some (fun n => .slice (some (n, 0)) s.length, .cells (some e) 2 (s.map fun b => .int .u8 b.toNat)) else none
  | _, _ => none
 | _, _, _ => none
def N5 (ob : Option CJ) (src dst : TypeId) (x : AB) : Option AB :=
 match P.underlying src, P.underlying dst, x with
 | some (.slice e), some .string, .slice r n =>
  match P.underlying e with
  | some (.int .u8) =>
   match r with
   | none => some (.str [])
   | some (_, o) => if n = 0 then some (.str []) else (CP ob o n).bind fun cs => (bytesOf cs).map .str
  | _ => none
 | some (.slice e), some .string, .Gt n cs =>
  match P.underlying e with
  | some (.int .u8) => if cs.length = n then (bytesOf cs).map .str else none
  | _ => none
 | _, _, _ => none
def JB (t : TypeId) (l c : AB) : Option Uw :=
 match P.underlying t, l, c with
 | some (.slice e), .int _ l, .int _ c =>
  match P.info? e with
  | some i =>
   match i.zero.map VC with
   | some z =>
    match z.cells?.map (·.map Em) with
    | some zc =>
     if 0 ≤ l ∧ l ≤ c ∧ c ≤ 1099511627776 ∧ i.bytes * c ≤ 1099511627776 ∧ zc.length = i.size ∧ zc.all AB.one = true then
      some (fun n => .slice (some (n, 0)) l.toNat, .cells (some e) 2 (Ec zc c.toNat))
     else none
    | none => none
   | none => none
  | none => none
 | _, _, _ => none
def Dg (n : Nat) (lo hi : Option AB) : Option (Nat × Nat) :=
 match hi with
 | some (.int _ u) =>
  if 0 ≤ u ∧ u ≤ n then
   match lo with
   | some (.int _ l) => if 0 ≤ l ∧ l ≤ u then some (l.toNat, u.toNat) else none
   | some _ => none
   | none => some (0, u.toNat)
  else none
 | some _ => none
 | none =>
  match lo with
  | some (.int _ l) => if 0 ≤ l ∧ l ≤ n then some (l.toNat, n) else none
  | some _ => none
  | none => some (0, n)
def PQ (t : TypeId) (x : AB) (lo hi : Option AB) : Option AB :=
 match P.underlying t, x with
 | some .string, .str s => (Dg s.length lo hi).map fun (l, u) => .str ((s.drop l).take (u - l))
 | _, _ => none
def JM (ob : Option CJ) (t : TypeId) (x : AB) (lo hi : Option AB) : Option AB :=
 match P.underlying t, x with
 | some (.array n e), .ptr (some (id, o)) =>
  match ob with
  | some (.cells none _ _) => (CQ P e).bind fun z => (Dg n lo hi).map fun (l, u) => .slice (some (id, o + l * z)) (u - l)
  | _ => none
 | some (.slice e), .slice none 0 => (CQ P e).bind fun _ => (Dg 0 lo hi).map fun _ => .slice none 0
 | some (.slice e), .Gt n cs => (CQ P e).bind fun z => if cs.length = n * z then (Dg n lo hi).map fun (l, u) => .Gt (u - l) ((cs.drop (l * z)).take ((u - l) * z)) else none
 | some (.slice e), .slice (some (id, o)) n =>
  match ob, CQ P e with
  | some (.cells none _ _), some z => (Dg n lo hi).map fun (l, u) => .slice (some (id, o + l * z)) (u - l)
  | some (.cells (some e') _ _), some z => if CQ P e' = some z then (Dg n lo hi).map fun (l, u) => .slice (some (id, o + l * z)) (u - l) else none
  | _, _ => none
 | _, _ => none
def LO (s : TypeId) (x : AB) (f : Nat) : Option AB :=
 match P.underlying s, x with
 | some (.struct fs), .ptr (some (id, o)) =>
  match fs[f]? with
  | some fd =>
   match CQ P fd.type with
   | some 0 => none
   | some _ => some (.ptr (some (id, o + fd.offset)))
   | none => none
  | none => none
 | some (.struct fs), .IQ g o =>
  match fs[f]? with
  | some fd =>
   match CQ P fd.type with
   | some 0 => none
   | some _ => some (.IQ g (o + fd.offset))
   | none => none
  | none => none
 | some (.struct fs), .An cs =>
  match fs[f]? with
  | some fd =>
   match CQ P fd.type with
   | some 0 => none
   | some _ => some (.An (cs.drop fd.offset))
   | none => none
  | none => none
 | _, _ => none
def RT (s : TypeId) (x : AB) (f : Nat) : Option AB :=
 match P.underlying s, x with
 | some (.struct fs), .agg cs =>
  match fs[f]? with
  | some fd => II P fd.type cs fd.offset
  | none => none
 | _, _ => none
def HQ (t : TypeId) (x i : AB) : Option AB :=
 match P.underlying t, x, i with
 | some (.array n e), .ptr (some (id, o)), .int _ i => if 0 ≤ i ∧ i < n then (CQ P e).map fun z => .ptr (some (id, o + i.toNat * z)) else none
 | some (.slice e), .slice (some (id, o)) n, .int _ i => if 0 ≤ i ∧ i < n then (CQ P e).map fun z => .ptr (some (id, o + i.toNat * z)) else none
 | some (.array n e), .IQ g o, .int _ i => if 0 ≤ i ∧ i < n then (CQ P e).map fun z => .IQ g (o + i.toNat * z) else none
 | some (.array n e), .An cs, .int _ i => if 0 ≤ i ∧ i < n then (CQ P e).map fun z => .An (cs.drop (i.toNat * z)) else none
 | some (.slice e), .Gt n cs, .int _ i => if 0 ≤ i ∧ i < n then (CQ P e).bind fun z => if cs.length = n * z ∧ z ≠ 0 then some (.An ((cs.drop (i.toNat * z)).take z)) else none else none
 | _, _, _ => none
def MJ (t : TypeId) (x i : AB) : Option AB :=
 match P.underlying t, x, i with
 | some (.array n e), .agg cs, .int _ i => if 0 ≤ i ∧ i < n then (CQ P e).bind fun z => II P e cs (i.toNat * z) else none
 | some .string, .str s, .int _ i => if 0 ≤ i then (s[i.toNat]?).map fun b => .int .u8 b.toNat else none
 | _, _, _ => none
def Cg (h : AF) (z n : Nat) : AB → Option (List AB)
 | .slice (some (id, o)) _ => if n = 0 then some [] else CP (h.get id) o (n * z)
 | .slice none _ => if n = 0 then some [] else none
 | .str s => if z = 1 then some ((s.take n).map fun b => .int .u8 b.toNat) else none
 | .Gt n' cs => if n ≤ n' ∧ cs.length = n' * z then some (cs.take (n * z)) else none
 | _ => none
def NR : AB → Option Nat
 | .slice _ n => some n
 | .Gt n _ => some n
 | .str s => some s.length
 | _ => none
def IY : TypeDesc → Bool
 | .int _ => false
 | _ => true
def appendCore (g : Gd) (h : AF) (e : TypeId) (i : TypeInfo) (r : Option (Nat × Nat)) (sl n : Nat) (x : AB) : Option (AB × AF) :=
 if n = 0 then some (.slice r sl, h)
 else if i.size ≠ 0 ∧ sl + n ≤ 1099511627776 ∧ (sl + n) * i.bytes ≤ 1099511627776 ∧ i.zero.map (·.cells.size) = some i.size then
  match (Cg h i.size n x).map (·.map Em), Cg h i.size sl (.slice r sl) with
  | some new, some GV =>
   if (GV ++ new).all AB.one = true then
    match r with
    | none => some (.slice (some (h.size, 0)) (sl + n), h.push (.cells (some e) 2 (GV ++ new)))
    | some (id, _) =>
     match h.get id with
     | some (.cells (some e') 2 _) =>
      if g.may id = true ∧ e' = e then some (.slice (some (h.size, 0)) (sl + n), (h.set id (.cells (some e') 0 [])).push (.cells (some e) 2 (GV ++ new)))
      else none
     | _ => none
   else none
  | _, _ => none
 else none
def LX (g : Gd) (h : AF) (ts : Array TypeId) (s x : AB) : Option (AB × AF) :=
 match ts[0]?, ts[1]?, s, NR x with
 | some st, some xt, .slice r sl, some n =>
  match P.underlying st, P.underlying xt with
  | some (.slice e), some d =>
   match P.info? e with
   | some i => if IY d = true then appendCore g h e i r sl n x else none
   | none => none
  | _, _ => none
 | _, _, _, _ => none
def Qc (g : Gd) (h : AF) (ts : Array TypeId) (d x : AB) : Option (AB × AF) :=
 match ts[0]?, d, NR x with
 | some dt, .slice r dl, some sl =>
  match P.underlying dt with
  | some (.slice e) =>
   match CQ P e with
   | some z =>
    match Cg h z (min sl dl) x, r with
    | some new, some (id, o) => if min sl dl = 0 then some (.int .i64 0, h) else (Ci g h id o new).map fun h' => (.int .i64 (min sl dl : Nat), h')
    | some _, none => if min sl dl = 0 then some (.int .i64 0, h) else none
    | none, _ => none
   | none => none
  | _ => none
 | _, _, _ => none
def W8 (ts : Array TypeId) (x : AB) : Option AB :=
 match ts[0]? with
 | none => none
 | some t =>
  match P.underlying t, x with
  | some .string, .str s => some (.int .i64 s.length)
  | some (.array n _), _ => some (.int .i64 n)
  | some (.slice _), .slice _ n => some (.int .i64 n)
  | some (.slice _), .Gt n _ => some (.int .i64 n)
  | _, _ => none
def VE (ob : Option CJ) (ts : Array TypeId) (x : AB) : Option AB :=
 match ts[0]? with
 | none => none
 | some t =>
  match P.underlying t, x with
  | some (.map _ _), .map none => some (.int .i64 0)
  | some (.map _ _), .map (some _) =>
   match ob with
   | some (.map st es) => if st ≠ 0 then some (.int .i64 es.length) else none
   | _ => none
  | some (.chan _ _), .chan (some _) =>
   match ob with
   | some (.chan _ buf) => some (.int .i64 buf.length)
   | _ => none
  | _, _ => none
def KR (mx : Bool) : AB → List AB → Option AB
 | v, [] => some v
 | .int k a, .int k' b :: r => if k = k' then KR mx (.int k (if mx then (if b > a then b else a) else (if b < a then b else a))) r else none
 | _, _ => none
def DG (t : TypeId) (k : AB) : List (AB × AB) → Nat → Option (Option (Nat × AB))
 | [], _ => some none
 | (k', v) :: es, i =>
  match Ho P 10000 t k k' with
  | some true => some (some (i, v))
  | some false => DG t k es (i + 1)
  | none => none
def Ed : Nat → TypeId → AB → Bool
 | 0, _, _ => false
 | d + 1, t, v =>
  match P.underlying t, v with
  | some (.int _), .int _ _ => true
  | some .string, .str _ => true
  | some .bool, .bool _ => true
  | some (.struct fs), .agg cs => fs.toList.all (fun f => f.name != "_" && (match II P f.type cs f.offset with | some x => Ed d f.type x | none => false))
  | some (.array n e), .agg cs => (match CQ P e with | some z => (List.range n).all (fun i => match II P e cs (i * z) with | some x => Ed d e x | none => false) | none => false)
  | _, _ => false
def KU (ob : Option CJ) (t : TypeId) (x k : AB) (ok : Bool) : Option AB :=
 match P.underlying t, x with
 | some (.map kt et), .map r =>
  if Ed P 20 kt k = true then
   match (match r with | none => some [] | some _ => match ob with | some (.map st es) => if st ≠ 0 then some es else none | _ => none) with
   | some es =>
    match DG P kt k es 0 with
    | some (some (_, v)) => some (if ok then .tuple [v, .bool true] else v)
    | some none => (Fm P et).map fun z => if ok then .tuple [z, .bool false] else z
    | none => none
   | none => none
  else none
 | _, _ => none
def Mo : AB → AB → Bool
 | .int k a, .int k' b => decide (k = k') && a == b
 | .str a, .str b => a == b
 | .bool a, .bool b => a == b
 | _, _ => false
def KJ : AB → AB → Bool
 | .agg a, .agg b => a.length == b.length && (a.zip b).all fun p => Mo p.1 p.2
 | x, y => Mo x y
def HT (g : Gd) (h : AF) : AB → Option (AB × AF)
 | .slice none 0 => some (.Gt 0 [], h)
 | .slice (some (id, 0)) n =>
  bif Nat.beq n 0 then some (.Gt 0 [], h) else
  match h.get id with
  | some (.cells gr 2 cs) => bif g.may id then some (.Gt n cs, h.set id (.cells gr 0 cs)) else none
  | some (.cells _ 0 (c :: cs)) => some (.Gt n (c :: cs), h)
  | _ => none
 | v => some (v, h)
def HA (g : Gd) (h : AF) (t : TypeId) (m k v : AB) : Option AF :=
 match P.underlying t, m with
 | some (.map kt _), .map (some id) =>
  if Ed P 20 kt k = true ∧ g.may id = true then
   match h.get id with
   | some (.map 2 es) =>
    match DG P kt k es 0 with
    | some (some (i, _)) =>
     match es[i]? with
     | some (k', _) => if KJ k' k = true then some (h.set id (.map 2 (es.set i (k, v)))) else none
     | none => none
    | some none => some (h.set id (.map 2 (es ++ [(k, v)])))
    | none => none
   | _ => none
  else none
 | _, _ => none
def E3 (g : Gd) (h : AF) (t : TypeId) (m k v : AB) : Option AF := (HT g h v).bind fun r => HA P g r.2 t m k r.1
def KS (g : Gd) (h : AF) (ts : Array TypeId) (m k : AB) : Option AF :=
 match ts[0]? with
 | none => none
 | some t =>
  match P.underlying t, m with
  | some (.map kt _), .map (some id) =>
   if Ed P 20 kt k = true ∧ g.may id = true then
    match h.get id with
    | some (.map 2 es) =>
     match DG P kt k es 0 with
     | some (some (i, _)) => some (h.set id (.map 2 (es.eraseIdx i)))
     | some none => some h
     | none => none
    | _ => none
   else none
  | _, _ => none
def BA : Op → Nat
 | .move _ | .assign _ | .pick .. | .build .. | .nilCheck _ | .binOp .. | .unOp .. | .makeFunc .. | .fieldAddr .. | .field .. | .indexAddr .. | .index .. | .extract .. => 0
 | .slice t .. => match P.underlying t with | some .string => 0 | _ => 1
 | .convert s d _ =>
  match P.underlying s, P.underlying d with
  | some (.slice _), some .string => 1
  | some (.slice _), some (.slice _) => 3
  | _, some (.slice _) => 2
  | _, _ => 0
 | .load .. | .lookup .. => 1
 | .alloc _ | .box .. | .buildSlice .. | .makeMap .. | .makeSlice .. | .range .. | .makeChan .. => 2
 | .call { callee := .builtin .len, argTypes := ts, .. } =>
  match ts[0]? with
  | some t => match P.underlying t with | some (.map _ _) => 1 | some (.chan _ _) => 1 | _ => 0
  | none => 0
 | .call { callee := .builtin .min, .. } | .call { callee := .builtin .max, .. } => 0
 | _ => 3
def IP (fr : Fr) : Op → Option AB
 | .move x | .assign x => some (ev fr x)
 | .pick c a b =>
  match ev fr c with
  | .bool b' => some (bif b' then ev fr a else ev fr b)
  | _ => none
 | .build t parts => Rh P t (parts.toList.map fun (i, x) => (i, ev fr x))
 | .nilCheck x =>
  match ev fr x with
  | .ptr (some r) => some (.ptr (some r))
  | .IQ g o => some (.IQ g o)
  | .An cs => some (.An cs)
  | .func (.func f) a b => some (.func (.func f) a b)
  | _ => none
 | .binOp op t x y _ => Ub P op t (Wa x || Wa y) (ev fr x) (ev fr y)
 | .unOp op _ x => ZD op (ev fr x)
 | .convert s d x => TL P s d (ev fr x)
 | .makeFunc fn first cap => some (.func fn (first.toList.map (ev fr)) (cap.toList.map (ev fr)))
 | .slice t x lo hi none => PQ P t (ev fr x) (lo.map (ev fr)) (hi.map (ev fr))
 | .fieldAddr s x f => LO P s (ev fr x) f
 | .field s x f => RT P s (ev fr x) f
 | .indexAddr t x i => HQ P t (ev fr x) (ev fr i)
 | .index t x i => MJ P t (ev fr x) (ev fr i)
 | .extract x i =>
  match ev fr x with
  | .tuple vs => vs[i]?
  | _ => none
 | .call { callee := .builtin b, args := as, argTypes := ts } =>
  match b, as.toList.map (ev fr) with
  | .len, [x] => W8 P ts x
  | .min, x :: r => KR false x r
  | .max, x :: r => KR true x r
  | _, _ => none
 | _ => none
def Dd : AB → Option Nat
 | .ptr (some (id, _)) => some id
 | .slice (some (id, _)) _ => some id
 | .map (some id) => some id
 | .chan (some id) => some id
 | _ => none
def Cq (fr : Fr) : Op → Option Nat
 | .load _ x => Dd (ev fr x)
 | .slice _ x _ _ _ => Dd (ev fr x)
 | .convert _ _ x => Dd (ev fr x)
 | .lookup _ x _ _ => Dd (ev fr x)
 | .call { args := as, .. } =>
  match as.toList with
  | [x] => Dd (ev fr x)
  | _ => none
 | _ => none
def Ih (G : Nat → Option (List AB)) (fr : Fr) (ob : Option CJ) : Op → Option AB
 | .load t a =>
  match ev fr a with
  | .ptr (some (_, o)) => GH P ob t o
  | .IQ g o => GH P ((G g).map fun cs => .cells none 1 cs) t o
  | .An cs => GH P (some (.cells none 1 cs)) t 0
  | _ => none
 | .slice t x lo hi none => JM P ob t (ev fr x) (lo.map (ev fr)) (hi.map (ev fr))
 | .convert s d x => N5 P ob s d (ev fr x)
 | .lookup t x k ok => KU P ob t (ev fr x) (ev fr k) ok
 | .call { callee := .builtin .len, args := as, argTypes := ts } =>
  match as.toList with
  | [x] => VE P ob ts (ev fr x)
  | _ => none
 | _ => none
def OG (fr : Fr) : Op → Option Uw
 | .alloc e => (Fm P e).bind M8
 | .box _ x => M8 (ev fr x)
 | .buildSlice t len parts => KO P t len (parts.toList.map fun (i, x) => (i, ev fr x))
 | .convert s d x => Sc P s d (ev fr x)
 | .makeMap _ none => some (fun n => .map (some n), .map 2 [])
 | .makeSlice t l c => JB P t (ev fr l) (ev fr c)
 | .makeChan t n =>
  match P.underlying t, ev fr n with
  | some (.chan _ e), .int _ n =>
   match P.info? e with
   | some i => if 0 ≤ n ∧ n ≤ 1099511627776 ∧ i.bytes * n ≤ 1099511627776 then some (fun k => .chan (some k), .chan n.toNat []) else none
   | none => none
  | _, _ => none
 | .range t x =>
  match P.underlying t, ev fr x with
  | some .string, .str s => some (fun n => .ptr (some (n, 0)), .iter s 0)
  | _, _ => none
 | _ => none
def SG (g : Gd) (h : AF) (s d : TypeId) (x : AB) : Option (AB × AF) :=
 match P.underlying s, P.underlying d, x with
 | some (.slice _), some (.slice e), .slice (some (id, o)) n =>
  match P.underlying e, h.get id with
  | some (.int .u8), some (.cells gr 2 cs) => bif Nat.beq s d && (g.may id && !(Nat.beq n 0)) then some (.slice (some (id, o)) n, h.set id (.cells gr 2 cs)) else none
  | _, _ => none
 | _, _, _ => none
def Ji (g : Gd) (h : AF) (fr : Fr) : Op → Option (AB × AF)
 | .convert s d x => SG P g h s d (ev fr x)
 | .store t a x =>
  match ev fr a with
  | .ptr (some (id, o)) => (KL P g h t id o (ev fr x)).map (.tuple [], ·)
  | _ => none
 | .mapUpdate t m k v | .insert t m k v => (E3 P g h t (ev fr m) (ev fr k) (ev fr v)).map (.tuple [], ·)
 | .next it true =>
  match ev fr it with
  | .ptr (some (id, 0)) =>
   match h.get id with
   | some (.iter s pos) =>
    if g.may id = true then
     if pos < s.length then
      some (.tuple [.bool true, .int .i64 pos, .int .i32 (Utf8.decode ⟨⟨s⟩⟩ pos).1], h.set id (.iter s (pos + (Utf8.decode ⟨⟨s⟩⟩ pos).2)))
     else some (.tuple [.bool false], h)
    else none
   | _ => none
  | _ => none
 | .call { callee := .builtin b, args := as, argTypes := ts } =>
  match b, as.toList.map (ev fr) with
  | .append, [s, x] => LX P g h ts s x
  | .copy, [d, x] => Qc P g h ts d x
  | .delete, [m, k] => (KS P g h ts m k).map (.tuple [], ·)
  | _, _ => none
 | _ => none
def Gp (G : Nat → Option (List AB)) (g : Gd) (h : AF) (fr : Fr) (op : Op) : Option (AB × AF) :=
 match BA P op with
 | 0 => (IP P fr op).map (·, h)
 | 1 =>
  match Cq fr op with
  | none => (Ih P G fr none op).map (·, h)
  | some id =>
   match h.get id with
   | some ob => (Ih P G fr (some ob) op).map (·, h)
   | none => none
 | 2 => (OG P fr op).map fun x => (x.1 h.size, h.push x.2)
 | _ => Ji P g h fr op
end
structure QW where
 o8 : Array Oper
 b : Nat
 o9 : Array Oper
 tb : Tmp
 b2 : Nat
 P7 : Array Oper
 body : Code
def ON : Code → Option QW
 | .seq (.region _ o8 false) (.block b (.loop (.seq (.region _ o9 false) (.seq (.cond (.tmp tb) .skip (.exit b')) (.block b2 (.seq (.region _ P7 false) body)))))) => bif Nat.beq b b' && !Nat.beq b b2 then some ⟨o8, b, o9, tb, b2, P7, body⟩ else none
 | _ => none
def UG (o9 : Array Oper) (tI tb : Tmp) : Option Tmp :=
 match o9.toList with
 | [n, x] =>
  match n.op, n.dst, n.guard, x.op, x.dst, x.guard with
  | .next (.tmp t) false, some tn, none, .extract (.tmp tn') 0, some tb', none => bif Nat.beq t tI && Nat.beq tn tn' && Nat.beq tb tb' && !Nat.beq tn tI && !Nat.beq tb tI then some tn else none
  | _, _, _, _, _, _ => none
 | _ => none
def UF (P7 : Array Oper) (tI : Tmp) : Option (Tmp × List Oper) :=
 match P7.toList with
 | n :: rest =>
  match n.op, n.dst, n.guard with
  | .entry (.tmp t), some te, none => bif Nat.beq t tI && !Nat.beq te tI then some (te, rest) else none
  | _, _, _ => none
 | _ => none
def Pd (n : Nat) : AB → Bool
 | .undef | .bool _ | .int _ _ | .str _ | .ptr none | .slice none _ | .map none | .nilFunc | .nilIface => true
 | .ptr (some (i, _)) => Nat.blt i n
 | .slice (some (i, _)) _ => Nat.blt i n
 | _ => false
def Hu (n : Nat) : AB → Bool
 | .agg cs => cs.all (Pd n)
 | v => Pd n v
def Dr (ks : List Nat) : Nat → Fr → Fr
 | _, [] => []
 | i, a :: l => (bif ks.any (Nat.beq i) then a else .undef) :: Dr ks (i + 1) l
def Lr (it : Nat) : AB → Bool
 | .ptr (some (a, b)) => Nat.beq a it && Nat.beq b 0
 | _ => false
abbrev Oq := Option (Nat × Option TypeId)
def DH (B : AF) (ob : Oq) (cs : List AB) : AF :=
 match ob with
 | none => B
 | some (id, gr) => B.set id (.cells gr 2 cs)
def MV (n : Nat) : Oq → Gd
 | none => ⟨n, []⟩
 | some (id, _) => ⟨0, (List.range n).filter fun k => !Nat.beq k id⟩
def SU (g : Gd) : Oq → Bool
 | none => true
 | some (id, _) => g.may id
def Q2 (h : AF) (fr : Fr) : Option Tmp → Option (Oq × List AB)
 | none => some (none, [])
 | some t =>
  match nth fr t with
  | .slice (some (id, _)) _ =>
   match h.get id with
   | some (.cells gr 2 cs) => some (some (id, gr), cs)
   | _ => none
  | _ => none
def Ku : AB → Bool
 | .bool _ | .int _ _ | .str _ => true
 | _ => false
def Nu (ob : Oq) (h : AF) : Option (List AB) :=
 match ob with
 | none => some []
 | some (id, gr) =>
  match h.get id with
  | some (.cells gr' 2 cs) => if gr' = gr ∧ cs.all Ku = true then some cs else none
  | _ => none
def OK (ks : List Nat) (n : Nat) (ob : Oq) (fr : Fr) (h : AF) (r : Bool) : Option (Bool × Fr × List AB) :=
 bif (Dr ks 0 fr).all (Hu n) then (Nu ob h).map fun cs => (r, Dr ks 0 fr, cs) else none
def DI {α β : Type} (rnd : α → β → Option (Bool × α)) : List β → α → Option (Bool × α)
 | [], a => some (false, a)
 | p :: l, a =>
  match rnd a p with
  | some (false, b) => DI rnd l b
  | r => r
def Nq (ks : List Nat) (n tn tb : Nat) : Bool := !ks.any (Nat.beq tn) && !ks.any (Nat.beq tb) && Nat.blt tn n && Nat.blt tb n
def Yz : Type := { d : Prop → Bool // (∀ p : Prop, d p = true → p) ∧ ∀ p q : Prop, d p = true → (p → q) → d q = true }
def V9 : Yz := ⟨fun _ => false, fun _ h => (nomatch h), fun _ _ h => (nomatch h)⟩
noncomputable def PT : Yz := ⟨fun p => @decide p (Classical.propDecidable p), fun p h => @of_decide_eq_true p (Classical.propDecidable p) h, fun p q h k => @decide_eq_true q (Classical.propDecidable q) (k (@of_decide_eq_true p (Classical.propDecidable p) h))⟩
structure E8 where
 P : Program
 kind : Nat → Nat
 Kk : Nat → Nat → List (Nat × List Nat)
 ext : Nat → Gd → AF → List AB → Option (AB × AF)
 Ca : Nat → Option (List AB) := fun _ => none
 Yk : FuncId → Code → Code → Bool := fun _ _ _ => false
 still : FuncId → List Bool := fun _ => []
 Tj : FuncId → Nat → Option (List Nat × List Nat × Option Tmp) := fun _ _ => none
 dec : Yz := V9
inductive B2 where
 | normal
 | exit (id : Nat)
 | ret
structure Self where
 call : Gd → AF → FuncId → List AB → Option (AB × AF)
 loop : Gd → FuncId → Code → Fr → AF → Option (B2 × Fr × AF)
 round : Gd → AF → Nat → List AB → Option (AB × AF)
section
variable (C : E8) (S : Self)
def BO (g : Gd) (h : AF) (fr : Fr) (op : Op) : Option (AB × AF) :=
 match op with
 | .call { callee := .value x, args := as, .. } =>
  match ev fr x with
  | .func (.func f) first cap => S.call g h f (first ++ (as.toList.map (ev fr) ++ cap))
  | .VJ l => S.round g h l (as.toList.map (ev fr))
  | _ => none
 | op => Gp C.P C.Ca g h fr op
def Cc (ops : Array Oper) (fr : Fr) (o : Oper) : Option Bool :=
 match o.guard with
 | none => some true
 | some (j, want) =>
  match (ops[j]?).bind (·.dst) with
  | none => some false
  | some d =>
   match nth fr d with
   | .bool b => some (b == want)
   | .undef => none
   | _ => some false
def DM (g : Gd) (ops : Array Oper) : List Oper → Fr → AF → Option (Fr × AF)
 | [], fr, h => some (fr, h)
 | o :: rest, fr, h =>
  match Cc ops fr o with
  | some true =>
   match BO C S g h fr o.op with
   | some (v, h') => DM g ops rest (put fr o.dst v) h'
   | none => none
  | some false => DM g ops rest (put fr o.dst (.tuple [])) h
  | none => none
def Gu (tch : List (Nat × Nat)) (U : List Nat) : List Nat := tch.filterMap fun (i, id) => bif U.any (Nat.beq i) then some id else none
def FL (P : Program) (h : AF) (fr : Fr) (i : Nat) (op : Op) (tch : List (Nat × Nat)) : List (Nat × Nat) :=
 match BA P op with
 | 1 => match Cq fr op with | some id => (i, id) :: tch | none => tch
 | 2 => (i, h.size) :: tch
 | _ => tch
def TM : AB → AB → Bool
 | .ptr (some (a, b)), .ptr (some (c, d)) => Nat.beq a c && Nat.beq b d
 | .int k a, .int k' b => decide (k = k') && decide (a = b)
 | .bool a, .bool b => a == b
 | .str a, .str b => decide (a = b)
 | .Gt 0 [], .Gt 0 [] => true
 | _, _ => false
def WN (ops : Array Oper) (fr : Fr) (h : AF) (i : Nat) : Bool :=
 match ops[i]? with
 | some o =>
  match Cc ops fr o with
  | some false => true
  | some true =>
   match o.dst, Cq fr o.op with
   | some d, some id =>
    Nat.blt d fr.length && (match h.get id with
     | some ob => (match Ih C.P C.Ca fr (some ob) o.op with | some v => TM v (nth fr d) | none => false)
     | none => false)
   | _, _ => false
  | none => false
 | none => false
def M6 (ops : Array Oper) (U : List Nat) (fr : Fr) (h : AF) : Bool := U.all fun u => Nat.blt u 10000 || WN C ops fr h (u - 10000)
def CR (g : Gd) (ops : Array Oper) : List (Nat × List Nat) → List (Nat × Nat) → Fr → AF → Option (Fr × AF)
 | [], _, fr, h => some (fr, h)
 | (i, U) :: rest, tch, fr, h =>
  match ops[i]? with
  | none => none
  | some o =>
   match Cc ops fr o with
   | some true =>
    match BO C S ⟨g.floor, Gu tch U ++ g.CD⟩ h fr o.op with
    | some (v, h') => bif M6 C ops U (put fr o.dst v) h' then CR g ops rest (FL C.P h fr i o.op tch) (put fr o.dst v) h' else none
    | none => none
   | some false => CR g ops rest tch (put fr o.dst (.tuple [])) h
   | none => none
def BW (f : FuncId) (g : Gd) : Code → Fr → AF → Option (B2 × Fr × AF)
 | .skip, fr, h => some (.normal, fr, h)
 | .label _, fr, h => some (.normal, fr, h)
 | .region id ops draw, fr, h =>
  match (bif draw then CR C S g ops (C.Kk f id) [] fr h else DM C S g ops ops.toList fr h) with
  | some (fr', h') => some (.normal, fr', h')
  | none => none
 | .seq a b, fr, h =>
  match BW f g a fr h with
  | some (.normal, fr', h') => BW f g b fr' h'
  | r => r
 | .cond c a b, fr, h =>
  match ev fr c with
  | .bool true => BW f g a fr h
  | .bool false => BW f g b fr h
  | _ => none
 | .block id c, fr, h =>
  match BW f g c fr h with
  | some (.exit i, fr', h') => bif Nat.beq i id then some (.normal, fr', h') else some (.exit i, fr', h')
  | r => r
 | .loop c, fr, h =>
  match BW f g c fr h with
  | some (.normal, fr', h') => S.loop g f c fr' h'
  | r => r
 | .scope c, fr, h => BW f g c fr h
 | .exit id, fr, h => some (.exit id, fr, h)
 | .ret, fr, h => some (.ret, fr, h)
 | _, _, _ => none
def Uh (_ : E8) (_ : Self) (_ : Gd) (_ : AF) (_ : Nat) (_ : List AB) : Option (AB × AF) := none
def OS (P : Program) (g : Gd) (h : AF) (fr : Fr) : Op → Option (AB × AF)
 | .select cases blocking =>
  match cases.toList, blocking with
  | [c], false =>
   match Fm P c.elem with
   | some z =>
    match ev fr c.chan with
    | .chan (some id) =>
     match h.get id with
     | some (.chan cap buf) =>
      match c.send with
      | some x =>
       bif Nat.ble cap buf.length then some (.tuple [.int .i64 (-1), .bool false], h)
       else bif g.may id then some (.tuple [.int .i64 0, .bool false], h.set id (.chan cap (buf ++ [ev fr x])))
       else none
      | none =>
       match buf with
       | v :: rest => bif g.may id then some (.tuple [.int .i64 0, .bool true, v], h.set id (.chan cap rest)) else none
       | [] => some (.tuple [.int .i64 (-1), .bool false, z], h)
     | _ => none
    | _ => none
   | none => none
  | _, _ => none
 | _ => none
def I2 : Code → Bool
 | .region _ ops draw => !draw && (match ops[0]? with | some o => (match o.op with | .select _ _ => o.guard.isNone | _ => false) | none => false)
 | _ => false
def Hn (g : Gd) : Code → Fr → AF → Option (B2 × Fr × AF)
 | .region _ ops _, fr, h =>
  match ops.toList with
  | o :: rest =>
   match OS C.P g h fr o.op with
   | some (v, h') =>
    match DM C S g ops rest (put fr o.dst v) h' with
    | some (fr', h') => some (.normal, fr', h')
    | none => none
   | none => none
  | [] => none
 | _, _, _ => none
def Ff (f : FuncId) (g : Gd) : Code → Fr → AF → Option (B2 × Fr × AF)
 | .seq a b, fr, h =>
  match Ff f g a fr h with
  | some (.normal, fr', h') => Ff f g b fr' h'
  | r => r
 | c, fr, h => bif I2 c then Hn C S g c fr h else BW C S f g c fr h
def I1 (f : FuncId) (q : QW) (ks rs : List Nat) (it : Nat) (tI te : Tmp) (rest : List Oper) (B : AF) (ob : Oq) (σ : Fr × List AB) (p : AB × AB) : Option (Bool × Fr × List AB) :=
 match DM C S (MV B.size ob) q.P7 rest (σ.1.set te (.tuple [p.1, p.2])) (DH B ob σ.2) with
 | some (fr2, h2) =>
  match BW C S f (MV B.size ob) q.body fr2 h2 with
  | some (.normal, fr, h) => bif Lr it (nth fr tI) then OK ks B.size ob fr h false else none
  | some (.exit i, fr, h) => bif Nat.beq i q.b2 && Lr it (nth fr tI) then OK ks B.size ob fr h false else none
  | some (.ret, fr, h) => OK rs B.size ob fr h true
  | none => none
 | none => none
def Oo (rnd : Fr × List AB → AB × AB → Option (Bool × Fr × List AB)) (es : List (AB × AB)) (σ : Fr × List AB) (B : AF) (ob : Oq) : Option (B2 × Fr × AF) :=
 match DI rnd es σ with
 | some (r, fr, cs) => bif C.dec.1 (∀ es', es'.Perm es → DI rnd es' σ = some (r, fr, cs)) then some (bif r then .ret else .normal, fr, DH B ob cs) else none
 | none => none
def MX (f : FuncId) (q : QW) (g : Gd) (ks rs : List Nat) (ot : Option Tmp) (orng : Oper) (fr1 : Fr) (h1 : AF) : Option (B2 × Fr × AF) :=
 match orng.op, orng.dst, orng.guard with
 | .range tM x, some tI, none =>
  match ev fr1 x, C.P.underlying tM, UG q.o9 tI q.tb, UF q.P7 tI with
  | .map (some id), some (.map _ _), some tn, some (te, rest) =>
   match h1.get id, Q2 h1 fr1 ot with
   | some (.map 2 es), some (ob, cs0) =>
    bif g.may id && SU g ob && (Dr ks 0 (fr1.set tI (.ptr (some (h1.size, 0))))).all (Hu (h1.size + 1)) && Lr h1.size (nth (Dr ks 0 (fr1.set tI (.ptr (some (h1.size, 0))))) tI) && Nq ks fr1.length tn q.tb && cs0.all Ku then
     Oo C (I1 C S f q ks rs h1.size tI te rest ((h1.set id (.map 0 [])).push (.cells none 0 [])) ob) es (Dr ks 0 (fr1.set tI (.ptr (some (h1.size, 0)))), cs0) ((h1.set id (.map 0 [])).push (.cells none 0 [])) ob
    else none
   | _, _ => none
  | _, _, _, _ => none
 | _, _, _ => none
def LW (f : FuncId) (q : QW) (g : Gd) (fr : Fr) (h : AF) : Option (B2 × Fr × AF) :=
 match C.Tj f q.b, q.o8.toList.getLast?, DM C S g q.o8 q.o8.toList.dropLast fr h with
 | some (ks, rs, ot), some orng, some (fr1, h1) => MX C S f q g ks rs ot orng fr1 h1
 | _, _, _ => none
def FA (f : FuncId) (g : Gd) : Code → Fr → AF → Option (B2 × Fr × AF)
 | .seq a b, fr, h =>
  match ON (.seq a b) with
  | some q => LW C S f q g fr h
  | none =>
   match FA f g a fr h with
   | some (.normal, fr', h') => FA f g b fr' h'
   | r => r
 | c, fr, h => BW C S f g c fr h
def GS (P : Program) (fr : Fr) (h : AF) : ResultVar → Option AB
 | .tmp t => some (nth fr t)
 | .cell a t =>
  match nth fr a with
  | .ptr (some (id, o)) => GH P (h.get id) t o
  | _ => none
def Cw (P : Program) (fn : Func) (fr : Fr) (h : AF) : Option AB :=
 match fn.results.toList.mapM (GS P fr h) with
 | some [v] => some v
 | some vs => some (.tuple vs)
 | none => none
def Eh : AB → Bool
 | .bool _ | .int _ _ | .str _ | .ptr none | .slice none _ | .map none | .chan none | .nilFunc | .nilIface => true
 | _ => false
def HX : AB → Bool
 | .agg cs => cs.all Eh
 | v => Eh v
def Lp : AB → Bool
 | .tuple vs => vs.all HX
 | v => HX v
def H7 (g : Gd) (h : AF) (f : FuncId) (args : List AB) : Option (AB × AF) :=
 match C.P.funcs[f]? with
 | none => none
 | some fn =>
  match fn.body with
  | none => none
  | some c =>
   match BW C S f g c (args ++ List.replicate (fn.ntmps - args.length) (.tuple [])) h with
   | some (.normal, fr, h') => (Cw C.P fn fr h').map (·, h')
   | some (.ret, fr, h') => (Cw C.P fn fr h').map (·, h')
   | _ => none
def OB (g : Gd) (h : AF) (f : FuncId) (args : List AB) : Option (AB × AF) :=
 match C.P.funcs[f]? with
 | none => none
 | some fn =>
  match fn.body with
  | none => none
  | some c =>
   match Ff C S f g c (args ++ List.replicate (fn.ntmps - args.length) (.tuple [])) h with
   | some (.normal, fr, h') => (Cw C.P fn fr h').map (·, h')
   | some (.ret, fr, h') => (Cw C.P fn fr h').map (·, h')
   | _ => none
def NO (g : Gd) (h : AF) (f : FuncId) (args : List AB) : Option (AB × AF) :=
 match C.P.funcs[f]? with
 | none => none
 | some fn =>
  match fn.body with
  | none => none
  | some c =>
   match FA C S f g c (args ++ List.replicate (fn.ntmps - args.length) (.tuple [])) h with
   | some (.normal, fr, h') => (Cw C.P fn fr h').map (·, h')
   | some (.ret, fr, h') => (Cw C.P fn fr h').map (·, h')
   | _ => none
def K9 (f : AF → AB → Option (AB × AF)) : List AB → AF → Option (List AB × AF)
 | [], h => some ([], h)
 | v :: vs, h =>
  match f h v with
  | some (v', h1) => (K9 f vs h1).map fun r => (v' :: r.1, r.2)
  | none => none
def Kf (g : Gd) (h : AF) : AB → Option (AB × AF)
 | .agg cs => (K9 (HT g) cs h).map fun r => (.agg r.1, r.2)
 | v => HT g h v
def M1 (g : Gd) (h : AF) : AB → Option (AB × AF)
 | .tuple vs => (K9 (Kf g) vs h).map fun r => (.tuple r.1, r.2)
 | v => Kf g h v
def Ux : AB → AB
 | .agg cs => .agg (cs.map Em)
 | v => Em v
def BP : List Bool → List AB → List AB
 | true :: bs, v :: vs => Ux v :: BP bs vs
 | false :: bs, v :: vs => v :: BP bs vs
 | _, vs => vs
def GF (g : Gd) (h : AF) (f : FuncId) (args : List AB) : Option (AB × AF) :=
 match C.kind f with
 | 1 => H7 C S g h f (BP (C.still f) args)
 | 2 =>
  match H7 C S ⟨h.size, []⟩ h f args with
  | some (v, _) => bif Lp v then some (v, h) else none
  | none => none
 | 3 => C.ext f g h args
 | 4 =>
  bif args.all HX then
   match H7 C S ⟨0, []⟩ ⟨0, .leaf⟩ f args with
   | some (v, _) => bif Lp v then some (v, h) else none
   | none => none
  else none
 | 7 =>
  match H7 C S g h f (BP (C.still f) args) with
  | some (v, h') => M1 g h' v
  | none => none
 | 8 => OB C S g h f (BP (C.still f) args)
 | 10 => NO C S g h f (BP (C.still f) args)
 | 11 =>
  match K9 (Kf g) args h with
  | some (args', h1) => H7 C S g h1 f args'
  | none => none
 | _ => none
end
def Co (C : E8) : Nat → Self
 | 0 => ⟨fun _ _ _ _ => none, fun _ _ _ _ _ => none, fun _ _ _ _ => none⟩
 | n + 1 => ⟨GF C (Co C n), fun g f c => BW C (Co C n) f g (.loop c), Uh C (Co C n)⟩
def X7 (C : E8) (n : Nat) (g : Gd) (h : AF) (f : FuncId) (args : List AB) : Option (AB × AF) := (Co C n).call g h f args
end Go.Av
