/-
  ABS, 1: an abstract, deterministic, executable semantics of the intermediate code: abstract values, an abstract heap (a trie of objects), the operations. Definitions alone; nothing is proved here.
-/
import Derived.Calls
namespace Go.Av
inductive AA where
 | undef
 | bool (b : Bool)
 | int (k : IntKind) (n : Int)
 | str (s : List UInt8)
 | ptr (r : Option (Nat × Nat))
 | JZ (g o : Nat)
 | slice (r : Option (Nat × Nat)) (len : Nat)
 | map (r : Option Nat)
 | chan (r : Option Nat)
 | func (fn : Fn) (first captured : List AA)
 | nilFunc
 | iface (t : TypeId) (v : AA)
 | nilIface
 | agg (cs : List AA)
 | tuple (vs : List AA)
 | G7 (n : Nat) (cs : List AA)
 | A7 (cs : List AA)
 | Mi (l : Nat)
 deriving Inhabited
inductive B4 where
 | cells (grow : Option TypeId) (st : Nat) (cs : List AA)
 | map (st : Nat) (es : List (AA × AA))
 | iter (s : List UInt8) (pos : Nat)
 | loop (st : Nat) (pend : Option Code) (f : FuncId) (fr : List AA) (ps : List Tmp) (a b : Code)
 | chan (cap : Nat) (buf : List AA)
 deriving Inhabited
inductive Tr (α : Type) where
 | leaf
 | node (l : Tr α) (v : Option α) (r : Tr α)
def Tr.get {α : Type} : Tr α → Nat → Option α
 | .leaf, _ => none
 | .node l v r, i => bif Nat.beq i 0 then v else bif Nat.beq (i % 2) 1 then l.get (i / 2) else r.get (i / 2 - 1)
def Tr.set {α : Type} : Nat → Tr α → Nat → α → Tr α
 | 0, t, _, _ => t
 | f + 1, .leaf, i, x => bif Nat.beq i 0 then .node .leaf (some x) .leaf else bif Nat.beq (i % 2) 1 then .node (Tr.set f .leaf (i / 2) x) none .leaf else .node .leaf none (Tr.set f .leaf (i / 2 - 1) x)
 | f + 1, .node l v r, i, x => bif Nat.beq i 0 then .node l (some x) r else bif Nat.beq (i % 2) 1 then .node (Tr.set f l (i / 2) x) v r else .node l v (Tr.set f r (i / 2 - 1) x)
structure AH where
 size : Nat
 tr : Tr B4
def AH.get (h : AH) (i : Nat) : Option B4 := bif Nat.blt i h.size then h.tr.get i else none
def AH.set (h : AH) (i : Nat) (o : B4) : AH := ⟨h.size, Tr.set (i + 1) h.tr i o⟩
def AH.push (h : AH) (o : B4) : AH := ⟨h.size + 1, Tr.set (h.size + 1) h.tr h.size o⟩
structure Gd where
 floor : Nat
 BU : List Nat
def Gd.may (g : Gd) (id : Nat) : Bool := Nat.ble g.floor id && !(g.BU.any (Nat.beq id))
abbrev Fr := List AA
def nth : List AA → Nat → AA
 | [], _ => .tuple []
 | a :: _, 0 => a
 | _ :: l, i + 1 => nth l i
def put (fr : Fr) (dst : Option Tmp) (v : AA) : Fr :=
 match dst with
 | some d => fr.set d v
 | none => fr
def AA.one : AA → Bool
 | .undef | .agg _ | .tuple _ => false
 | _ => true
def AA.cells? : AA → Option (List AA)
 | .undef | .tuple _ => none
 | .agg cs => some cs
 | v => some [v]
def Mr : Value → AA
 | .bool b => .bool b
 | .int k n => .int k n
 | .string s => .str s.data.toList
 | .pointer none => .ptr none
 | .slice none 0 0 => .slice none 0
 | .map none => .map none
 | .chan none => .chan none
 | .nilFunc => .nilFunc
 | .nilIface => .nilIface
 | _ => .undef
def Ui : Value → AA
 | .agg cs => .agg (cs.toList.map Mr)
 | .tuple vs => .tuple (vs.toList.map Mr)
 | v => Mr v
def ev (fr : Fr) : Operand → AA
 | .tmp t => nth fr t
 | .const v => Ui v
 | .global g => .JZ g 0
 | .func f => .func (.func f) [] []
def DY (cs : List AA) (o : Nat) (new : List AA) : List AA := cs.take o ++ (new ++ cs.drop (o + new.length))
section
variable (P : Program)
def Cv (t : TypeId) : Option Nat := (P.info? t).map (·.size)
def Jt (t : TypeId) : Option Bool :=
 match P.underlying t with
 | some (.struct _) | some (.array _ _) => some true
 | some _ => some false
 | none => none
def Cz (ob : Option B4) (o n : Nat) : Option (List AA) :=
 match ob with
 | some (.cells _ st cs) => if st ≠ 0 ∧ o + n ≤ cs.length then some ((cs.drop o).take n) else none
 | _ => none
def Gb (ob : Option B4) (t : TypeId) (o : Nat) : Option AA :=
 match Jt P t with
 | some true => (Cv P t).bind fun n => (Cz ob o n).map .agg
 | some false =>
  match Cz ob o 1 with
  | some [v] => some v
  | _ => none
 | none => none
def DO (g : Gd) (h : AH) (id o : Nat) (new : List AA) : Option AH :=
 match h.get id with
 | some (.cells gr 2 cs) => if g.may id = true ∧ o + new.length ≤ cs.length ∧ new.all AA.one = true then some (h.set id (.cells gr 2 (DY cs o new))) else none
 | _ => none
def K1 (g : Gd) (h : AH) (t : TypeId) (id o : Nat) (v : AA) : Option AH :=
 match v.cells?, Cv P t with
 | some new, some n => if new.length = n then DO g h id o new else none
 | _, _ => none
abbrev UQ := (Nat → AA) × B4
def NT (v : AA) : Option UQ :=
 match v.cells? with
 | some cs => if cs.all AA.one = true then some (fun n => .ptr (some (n, 0)), .cells none 2 cs) else none
 | none => none
def HD (t : TypeId) : Option AA :=
 match P.info? t with
 | some i => i.zero.map Ui
 | none => none
def KG (place : Nat → Option (Nat × Nat)) (cells : List AA) : List (Nat × AA) → Option (List AA)
 | [] => some cells
 | (i, v) :: rest =>
  match place i, v.cells? with
  | some (off, size), some new => if new.length = size ∧ off + size ≤ cells.length then KG place (DY cells off new) rest else none
  | _, _ => none
def QS (fs : List Field) : Option (List (Nat × Nat)) := fs.mapM fun f => (P.info? f.type).map fun i => (f.offset, i.size)
def Ro (t : TypeId) (parts : List (Nat × AA)) : Option AA :=
 match P.underlying t, (HD P t).bind AA.cells? with
 | some (.array _ e), some z => (Cv P e).bind fun n => (KG (fun i => some (i * n, n)) z parts).map .agg
 | some (.struct fs), some z => (QS P fs.toList).bind fun ps => (KG (ps[·]?) z parts).map .agg
 | _, _ => none
def FX (z : List AA) : Nat → List AA
 | 0 => []
 | n + 1 => z ++ FX z n
def GS : AA → AA
 | .slice none 0 => .G7 0 []
 | v => v
def KR (t : TypeId) (len : Nat) (parts : List (Nat × AA)) : Option UQ :=
 match P.underlying t with
 | some (.slice e) =>
  match Cv P e, (HD P e).bind AA.cells? with
  | some n, some z =>
   if len * n ≤ 16777216 ∧ z.length = n ∧ n ≠ 0 then
    match KG (fun i => some (i * n, n)) (FX z len) parts with
    | some cs => if (cs.map GS).all AA.one = true then some (fun n => .slice (some (n, 0)) len, .cells (some e) 2 (cs.map GS)) else none
    | none => none
   else none
  | _, _ => none
 | _ => none
def OB (op : BinOp) (k : IntKind) (a b : Int) : Option AA :=
 match op with
 | .add => some (.int k (k.wrap (a + b)))
 | .sub => some (.int k (k.wrap (a - b)))
 | .mul => some (.int k (k.wrap (a * b)))
 | .quo => if b = 0 then none else some (.int k (k.wrap (a.tdiv b)))
 | .rem => if b = 0 then none else some (.int k (a.tmod b))
 | .and => some (.int k (k.wrap (BitVec.ofInt k.bits a &&& BitVec.ofInt k.bits b).toNat))
 | .or => some (.int k (k.wrap (BitVec.ofInt k.bits a ||| BitVec.ofInt k.bits b).toNat))
 | .xor => some (.int k (k.wrap (BitVec.ofInt k.bits a ^^^ BitVec.ofInt k.bits b).toNat))
 | .andNot => some (.int k (k.wrap (BitVec.ofInt k.bits a &&& ~~~BitVec.ofInt k.bits b).toNat))
 | .eql => some (.bool (a == b))
 | .neq => some (.bool (a != b))
 | .lss => some (.bool (decide (a < b)))
 | .leq => some (.bool (decide (a ≤ b)))
 | .gtr => some (.bool (decide (a > b)))
 | .geq => some (.bool (decide (a ≥ b)))
 | _ => none
def OI (op : BinOp) (k : IntKind) (a b : Int) : Option AA :=
 if b < 0 then none else
 match op with
 | .shl => some (.int k (k.wrap (a * 2 ^ (min b.toNat k.bits))))
 | .shr => some (.int k (a.fdiv (2 ^ (min b.toNat k.bits))))
 | _ => none
def Rc (op : BinOp) (a b : List UInt8) : Option AA :=
 match op with
 | .add => if a.length + b.length ≤ 9223372036854775807 then some (.str (a ++ b)) else none
 | .eql => some (.bool (a == b))
 | .neq => some (.bool !(a == b))
 | .lss => some (.bool (Op.bytesLess a b))
 | .leq => some (.bool (Op.bytesLess a b || a == b))
 | .gtr => some (.bool !(Op.bytesLess a b || a == b))
 | .geq => some (.bool !(Op.bytesLess a b))
 | _ => none
def KC (t : TypeId) (cs : List AA) (off : Nat) : Option AA :=
 match Jt P t with
 | some true => (Cv P t).bind fun n => if off + n ≤ cs.length then some (.agg ((cs.drop off).take n)) else none
 | some false => cs[off]?
 | none => none
def eqFields (eq : TypeId → AA → AA → Option Bool) (xs ys : List AA) : List Field → Option Bool
 | [] => some true
 | f :: fs =>
  if f.name = "_" then eqFields eq xs ys fs else
  match KC P f.type xs f.offset, KC P f.type ys f.offset with
  | some a, some b =>
   match eq f.type a b with
   | some true => eqFields eq xs ys fs
   | some false => some false
   | none => none
  | _, _ => none
def MS (eq : TypeId → AA → AA → Option Bool) (e : TypeId) (z : Nat) (xs ys : List AA) : Nat → Nat → Option Bool
 | 0, _ => some true
 | n + 1, i =>
  match KC P e xs (i * z), KC P e ys (i * z) with
  | some a, some b =>
   match eq e a b with
   | some true => MS eq e z xs ys n (i + 1)
   | some false => some false
   | none => none
  | _, _ => none
def II : Nat → TypeId → AA → AA → Option Bool
 | 0, _, _, _ => none
 | d + 1, t, x, y =>
  match P.underlying t, x, y with
  | some .bool, .bool a, .bool b => some (a == b)
  | some (.int _), .int k a, .int k' b => if k = k' then some (a == b) else none
  | some .string, .str a, .str b => some (a == b)
  | some (.pointer _), .ptr none, .ptr b => some b.isNone
  | some (.pointer _), .ptr (some _), .ptr none => some false
  | some (.pointer _), .A7 _, .ptr none => some false
  | some (.map _ _), .map none, .map b => some b.isNone
  | some (.map _ _), .map (some _), .map none => some false
  | some (.func _ _ _), .nilFunc, .nilFunc => some true
  | some (.func _ _ _), .nilFunc, .func _ _ _ => some false
  | some (.func _ _ _), .func _ _ _, .nilFunc => some false
  | some (.struct fs), .agg xs, .agg ys => if P.stoodInHeld t = true then none else eqFields P (II d) xs ys fs.toList
  | some (.array n e), .agg xs, .agg ys => (Cv P e).bind fun z => MS P (II d) e z xs ys n 0
  | _, _, _ => none
def UK : AA → Bool
 | .bool _ | .ptr _ | .slice _ _ | .map _ | .nilFunc | .func _ _ _ | .G7 _ _ | .A7 _ => true
 | _ => false
def Rh (op : BinOp) (t : TypeId) (x y : AA) : Option AA :=
 match x, y with
 | .int k a, .int k' b =>
  match op with
  | .shl | .shr => OI op k a b
  | _ => if k = k' then OB op k a b else none
 | .str a, .str b => Rc op a b
 | .agg xs, .agg ys =>
  if P.eqGuardType P.depth t = true then none else
  match op with
  | .eql => (II P 10000 t (.agg xs) (.agg ys)).map .bool
  | .neq => (II P 10000 t (.agg xs) (.agg ys)).map fun b => .bool !b
  | _ => none
 | x, y =>
  if UK x = true then
   match op with
   | .eql => (II P 10000 t x y).map .bool
   | .neq => (II P 10000 t x y).map fun b => .bool !b
   | _ => none
  else none
def V3 : Operand → Bool
 | .const _ => true
 | _ => false
def Wc (op : BinOp) (t : TypeId) (c : Bool) : Option AA :=
 match P.underlying t with
 | some (.interface _) => bif c then (match op with | .eql => some (.bool true) | .neq => some (.bool false) | _ => none) else none
 | _ => none
def Rt (op : BinOp) (t : TypeId) (c : Bool) (x y : AA) : Option AA :=
 match x, y with
 | .nilIface, .nilIface => Wc P op t c
 | x, y => Rh P op t x y
def XL (op : UnOp) (x : AA) : Option AA :=
 match op, x with
 | .neg, .int k n => OB .sub k 0 n
 | .xor, .int k n => OB .xor k (if k.signed then -1 else k.max) n
 | .not, .bool b => some (.bool !b)
 | _, _ => none
def bytesOf : List AA → Option (List UInt8)
 | [] => some []
 | .int .u8 n :: r => (bytesOf r).map (UInt8.ofNat n.toNat :: ·)
 | _ => none
def T5 (src dst : TypeId) (x : AA) : Option AA :=
 match P.underlying src, P.underlying dst, x with
 | some _, some (.int k), .int _ n => some (.int k (k.wrap n))
 | some _, some .string, .str s => some (.str s)
 | some _, some .string, .int _ n => some (.str (Utf8.encode n).data.toList)
 | _, _, _ => none
def Ua (src dst : TypeId) (x : AA) : Option UQ :=
 match P.underlying src, P.underlying dst, x with
 | some _, some (.slice e), .str s =>
  match P.underlying e, Cv P e with
  | some (.int .u8), some 1 => if s.length ≤ 1099511627776 then some (fun n => .slice (some (n, 0)) s.length, .cells (some e) 2 (s.map fun b => .int .u8 b.toNat)) else none
  | _, _ => none
 | _, _, _ => none
def PJ (ob : Option B4) (src dst : TypeId) (x : AA) : Option AA :=
 match P.underlying src, P.underlying dst, x with
 | some (.slice e), some .string, .slice r n =>
  match P.underlying e with
  | some (.int .u8) =>
   match r with
   | none => some (.str [])
   | some (_, o) => if n = 0 then some (.str []) else (Cz ob o n).bind fun cs => (bytesOf cs).map .str
  | _ => none
 | some (.slice e), some .string, .G7 n cs =>
  match P.underlying e with
  | some (.int .u8) => if cs.length = n then (bytesOf cs).map .str else none
  | _ => none
 | _, _, _ => none
def Jz (t : TypeId) (l c : AA) : Option UQ :=
 match P.underlying t, l, c with
 | some (.slice e), .int _ l, .int _ c =>
  match P.info? e with
  | some i =>
   match i.zero.map Ui with
   | some z =>
    match z.cells?.map (·.map GS) with
    | some zc =>
     if 0 ≤ l ∧ l ≤ c ∧ c ≤ 1099511627776 ∧ i.bytes * c ≤ 1099511627776 ∧ zc.length = i.size ∧ zc.all AA.one = true then
      some (fun n => .slice (some (n, 0)) l.toNat, .cells (some e) 2 (FX zc c.toNat))
     else none
    | none => none
   | none => none
  | none => none
 | _, _, _ => none
def E5 (n : Nat) (lo hi : Option AA) : Option (Nat × Nat) :=
 match hi with
 | some (.int _ u) =>
  if 0 ≤ u ∧ u ≤ n then
   match lo with
   | some (.int _ l) => if 0 ≤ l ∧ l ≤ u then some (l.toNat, u.toNat) else none
   | some _ => none
   | none => some (0, u.toNat)
  else none
 | some _ => none
 | none =>
  match lo with
  | some (.int _ l) => if 0 ≤ l ∧ l ≤ n then some (l.toNat, n) else none
  | some _ => none
  | none => some (0, n)
def QU (t : TypeId) (x : AA) (lo hi : Option AA) : Option AA :=
 match P.underlying t, x with
 | some .string, .str s => (E5 s.length lo hi).map fun (l, u) => .str ((s.drop l).take (u - l))
 | _, _ => none
def QO (ob : Option B4) (t : TypeId) (x : AA) (lo hi : Option AA) : Option AA :=
 match P.underlying t, x with
 | some (.array n e), .ptr (some (id, o)) =>
  match ob with
  | some (.cells none _ _) => (Cv P e).bind fun z => (E5 n lo hi).map fun (l, u) => .slice (some (id, o + l * z)) (u - l)
  | _ => none
 | some (.slice e), .slice none 0 => (Cv P e).bind fun _ => (E5 0 lo hi).map fun _ => .slice none 0
 | some (.slice e), .G7 n cs => (Cv P e).bind fun z => if cs.length = n * z then (E5 n lo hi).map fun (l, u) => .G7 (u - l) ((cs.drop (l * z)).take ((u - l) * z)) else none
 | some (.slice e), .slice (some (id, o)) n =>
  match ob, Cv P e with
  | some (.cells none _ _), some z => (E5 n lo hi).map fun (l, u) => .slice (some (id, o + l * z)) (u - l)
  | some (.cells (some e') _ _), some z => if Cv P e' = some z then (E5 n lo hi).map fun (l, u) => .slice (some (id, o + l * z)) (u - l) else none
  | _, _ => none
 | _, _ => none
def Ln (s : TypeId) (x : AA) (f : Nat) : Option AA :=
 match P.underlying s, x with
 | some (.struct fs), .ptr (some (id, o)) =>
  match fs[f]? with
  | some fd =>
   match Cv P fd.type with
   | some 0 => none
   | some _ => some (.ptr (some (id, o + fd.offset)))
   | none => none
  | none => none
 | some (.struct fs), .JZ g o =>
  match fs[f]? with
  | some fd =>
   match Cv P fd.type with
   | some 0 => none
   | some _ => some (.JZ g (o + fd.offset))
   | none => none
  | none => none
 | some (.struct fs), .A7 cs =>
  match fs[f]? with
  | some fd =>
   match Cv P fd.type with
   | some 0 => none
   | some _ => some (.A7 (cs.drop fd.offset))
   | none => none
  | none => none
 | _, _ => none
def SB (s : TypeId) (x : AA) (f : Nat) : Option AA :=
 match P.underlying s, x with
 | some (.struct fs), .agg cs =>
  match fs[f]? with
  | some fd => KC P fd.type cs fd.offset
  | none => none
 | _, _ => none
def GU (t : TypeId) (x i : AA) : Option AA :=
 match P.underlying t, x, i with
 | some (.array n e), .ptr (some (id, o)), .int _ i => if 0 ≤ i ∧ i < n then (Cv P e).map fun z => .ptr (some (id, o + i.toNat * z)) else none
 | some (.slice e), .slice (some (id, o)) n, .int _ i => if 0 ≤ i ∧ i < n then (Cv P e).map fun z => .ptr (some (id, o + i.toNat * z)) else none
 | some (.array n e), .JZ g o, .int _ i => if 0 ≤ i ∧ i < n then (Cv P e).map fun z => .JZ g (o + i.toNat * z) else none
 | some (.array n e), .A7 cs, .int _ i => if 0 ≤ i ∧ i < n then (Cv P e).map fun z => .A7 (cs.drop (i.toNat * z)) else none
 | some (.slice e), .G7 n cs, .int _ i => if 0 ≤ i ∧ i < n then (Cv P e).bind fun z => if cs.length = n * z ∧ z ≠ 0 then some (.A7 ((cs.drop (i.toNat * z)).take z)) else none else none
 | _, _, _ => none
def Pq (t : TypeId) (x i : AA) : Option AA :=
 match P.underlying t, x, i with
 | some (.array n e), .agg cs, .int _ i => if 0 ≤ i ∧ i < n then (Cv P e).bind fun z => KC P e cs (i.toNat * z) else none
 | some .string, .str s, .int _ i => if 0 ≤ i then (s[i.toNat]?).map fun b => .int .u8 b.toNat else none
 | _, _, _ => none
def Dv (h : AH) (z n : Nat) : AA → Option (List AA)
 | .slice (some (id, o)) _ => if n = 0 then some [] else Cz (h.get id) o (n * z)
 | .slice none _ => if n = 0 then some [] else none
 | .str s => if z = 1 then some ((s.take n).map fun b => .int .u8 b.toNat) else none
 | .G7 n' cs => if n ≤ n' ∧ cs.length = n' * z then some (cs.take (n * z)) else none
 | _ => none
def Ow : AA → Option Nat
 | .slice _ n => some n
 | .G7 n _ => some n
 | .str s => some s.length
 | _ => none
def JM : TypeDesc → Bool
 | .int _ => false
 | _ => true
def appendCore (g : Gd) (h : AH) (e : TypeId) (i : TypeInfo) (r : Option (Nat × Nat)) (sl n : Nat) (x : AA) : Option (AA × AH) :=
 if n = 0 then some (.slice r sl, h)
 else if i.size ≠ 0 ∧ sl + n ≤ 1099511627776 ∧ (sl + n) * i.bytes ≤ 1099511627776 ∧ i.zero.map (·.cells.size) = some i.size then
  match (Dv h i.size n x).map (·.map GS), Dv h i.size sl (.slice r sl) with
  | some new, some old =>
   if (old ++ new).all AA.one = true then
    match r with
    | none => some (.slice (some (h.size, 0)) (sl + n), h.push (.cells (some e) 2 (old ++ new)))
    | some (id, _) =>
     match h.get id with
     | some (.cells (some e') 2 _) =>
      if g.may id = true ∧ e' = e then some (.slice (some (h.size, 0)) (sl + n), (h.set id (.cells (some e') 0 [])).push (.cells (some e) 2 (old ++ new)))
      else none
     | _ => none
   else none
  | _, _ => none
 else none
def L3 (g : Gd) (h : AH) (ts : Array TypeId) (s x : AA) : Option (AA × AH) :=
 match ts[0]?, ts[1]?, s, Ow x with
 | some st, some xt, .slice r sl, some n =>
  match P.underlying st, P.underlying xt with
  | some (.slice e), some d =>
   match P.info? e with
   | some i => if JM d = true then appendCore g h e i r sl n x else none
   | none => none
  | _, _ => none
 | _, _, _, _ => none
def SL (g : Gd) (h : AH) (ts : Array TypeId) (d x : AA) : Option (AA × AH) :=
 match ts[0]?, d, Ow x with
 | some dt, .slice r dl, some sl =>
  match P.underlying dt with
  | some (.slice e) =>
   match Cv P e with
   | some z =>
    match Dv h z (min sl dl) x, r with
    | some new, some (id, o) => if min sl dl = 0 then some (.int .i64 0, h) else (DO g h id o new).map fun h' => (.int .i64 (min sl dl : Nat), h')
    | some _, none => if min sl dl = 0 then some (.int .i64 0, h) else none
    | none, _ => none
   | none => none
  | _ => none
 | _, _, _ => none
def WU (ts : Array TypeId) (x : AA) : Option AA :=
 match ts[0]? with
 | none => none
 | some t =>
  match P.underlying t, x with
  | some .string, .str s => some (.int .i64 s.length)
  | some (.array n _), _ => some (.int .i64 n)
  | some (.slice _), .slice _ n => some (.int .i64 n)
  | some (.slice _), .G7 n _ => some (.int .i64 n)
  | _, _ => none
def Te (ob : Option B4) (ts : Array TypeId) (x : AA) : Option AA :=
 match ts[0]? with
 | none => none
 | some t =>
  match P.underlying t, x with
  | some (.map _ _), .map none => some (.int .i64 0)
  | some (.map _ _), .map (some _) =>
   match ob with
   | some (.map st es) => if st ≠ 0 then some (.int .i64 es.length) else none
   | _ => none
  | some (.chan _ _), .chan (some _) =>
   match ob with
   | some (.chan _ buf) => some (.int .i64 buf.length)
   | _ => none
  | _, _ => none
def LJ (mx : Bool) : AA → List AA → Option AA
 | v, [] => some v
 | .int k a, .int k' b :: r => if k = k' then LJ mx (.int k (if mx then (if b > a then b else a) else (if b < a then b else a))) r else none
 | _, _ => none
def Cu (t : TypeId) (k : AA) : List (AA × AA) → Nat → Option (Option (Nat × AA))
 | [], _ => some none
 | (k', v) :: es, i =>
  match II P 10000 t k k' with
  | some true => some (some (i, v))
  | some false => Cu t k es (i + 1)
  | none => none
def FP : Nat → TypeId → AA → Bool
 | 0, _, _ => false
 | d + 1, t, v =>
  match P.underlying t, v with
  | some (.int _), .int _ _ => true
  | some .string, .str _ => true
  | some .bool, .bool _ => true
  | some (.struct fs), .agg cs => fs.toList.all (fun f => f.name != "_" && (match KC P f.type cs f.offset with | some x => FP d f.type x | none => false))
  | some (.array n e), .agg cs => (match Cv P e with | some z => (List.range n).all (fun i => match KC P e cs (i * z) with | some x => FP d e x | none => false) | none => false)
  | _, _ => false
def K9 (ob : Option B4) (t : TypeId) (x k : AA) (ok : Bool) : Option AA :=
 match P.underlying t, x with
 | some (.map kt et), .map r =>
  if FP P 20 kt k = true then
   match (match r with | none => some [] | some _ => match ob with | some (.map st es) => if st ≠ 0 then some es else none | _ => none) with
   | some es =>
    match Cu P kt k es 0 with
    | some (some (_, v)) => some (if ok then .tuple [v, .bool true] else v)
    | some none => (HD P et).map fun z => if ok then .tuple [z, .bool false] else z
    | none => none
   | none => none
  else none
 | _, _ => none
def OC : AA → AA → Bool
 | .int k a, .int k' b => decide (k = k') && a == b
 | .str a, .str b => a == b
 | .bool a, .bool b => a == b
 | _, _ => false
def Lb : AA → AA → Bool
 | .agg a, .agg b => a.length == b.length && (a.zip b).all fun p => OC p.1 p.2
 | x, y => OC x y
def Fx (g : Gd) (h : AH) : AA → Option (AA × AH)
 | .slice none 0 => some (.G7 0 [], h)
 | .slice (some (id, 0)) n =>
  bif Nat.beq n 0 then some (.G7 0 [], h) else
  match h.get id with
  | some (.cells gr 2 cs) => bif g.may id then some (.G7 n cs, h.set id (.cells gr 0 cs)) else none
  | some (.cells _ 0 (c :: cs)) => some (.G7 n (c :: cs), h)
  | _ => none
 | v => some (v, h)
def IJ (g : Gd) (h : AH) (t : TypeId) (m k v : AA) : Option AH :=
 match P.underlying t, m with
 | some (.map kt _), .map (some id) =>
  if FP P 20 kt k = true ∧ g.may id = true then
   match h.get id with
   | some (.map 2 es) =>
    match Cu P kt k es 0 with
    | some (some (i, _)) =>
     match es[i]? with
     | some (k', _) => if Lb k' k = true then some (h.set id (.map 2 (es.set i (k, v)))) else none
     | none => none
    | some none => some (h.set id (.map 2 (es ++ [(k, v)])))
    | none => none
   | _ => none
  else none
 | _, _ => none
def GP (g : Gd) (h : AH) (t : TypeId) (m k v : AA) : Option AH := (Fx g h v).bind fun r => IJ P g r.2 t m k r.1
def LF (g : Gd) (h : AH) (ts : Array TypeId) (m k : AA) : Option AH :=
 match ts[0]? with
 | none => none
 | some t =>
  match P.underlying t, m with
  | some (.map kt _), .map (some id) =>
   if FP P 20 kt k = true ∧ g.may id = true then
    match h.get id with
    | some (.map 2 es) =>
     match Cu P kt k es 0 with
     | some (some (i, _)) => some (h.set id (.map 2 (es.eraseIdx i)))
     | some none => some h
     | none => none
    | _ => none
   else none
  | _, _ => none
def BE : Op → Nat
 | .move _ | .assign _ | .pick .. | .build .. | .nilCheck _ | .binOp .. | .unOp .. | .makeFunc .. | .fieldAddr .. | .field .. | .indexAddr .. | .index .. | .extract .. => 0
 | .slice t .. => match P.underlying t with | some .string => 0 | _ => 1
 | .convert s d _ =>
  match P.underlying s, P.underlying d with
  | some (.slice _), some .string => 1
  | some (.slice _), some (.slice _) => 3
  | _, some (.slice _) => 2
  | _, _ => 0
 | .load .. | .lookup .. => 1
 | .alloc _ | .box .. | .buildSlice .. | .makeMap .. | .makeSlice .. | .range .. | .makeChan .. => 2
 | .call { callee := .builtin .len, argTypes := ts, .. } =>
  match ts[0]? with
  | some t => match P.underlying t with | some (.map _ _) => 1 | some (.chan _ _) => 1 | _ => 0
  | none => 0
 | .call { callee := .builtin .min, .. } | .call { callee := .builtin .max, .. } => 0
 | _ => 3
def Iv (fr : Fr) : Op → Option AA
 | .move x | .assign x => some (ev fr x)
 | .pick c a b =>
  match ev fr c with
  | .bool b' => some (bif b' then ev fr a else ev fr b)
  | _ => none
 | .build t parts => Ro P t (parts.toList.map fun (i, x) => (i, ev fr x))
 | .nilCheck x =>
  match ev fr x with
  | .ptr (some r) => some (.ptr (some r))
  | .JZ g o => some (.JZ g o)
  | .A7 cs => some (.A7 cs)
  | .func (.func f) a b => some (.func (.func f) a b)
  | _ => none
 | .binOp op t x y _ => Rt P op t (V3 x || V3 y) (ev fr x) (ev fr y)
 | .unOp op _ x => XL op (ev fr x)
 | .convert s d x => T5 P s d (ev fr x)
 | .makeFunc fn first cap => some (.func fn (first.toList.map (ev fr)) (cap.toList.map (ev fr)))
 | .slice t x lo hi none => QU P t (ev fr x) (lo.map (ev fr)) (hi.map (ev fr))
 | .fieldAddr s x f => Ln P s (ev fr x) f
 | .field s x f => SB P s (ev fr x) f
 | .indexAddr t x i => GU P t (ev fr x) (ev fr i)
 | .index t x i => Pq P t (ev fr x) (ev fr i)
 | .extract x i =>
  match ev fr x with
  | .tuple vs => vs[i]?
  | _ => none
 | .call { callee := .builtin b, args := as, argTypes := ts } =>
  match b, as.toList.map (ev fr) with
  | .len, [x] => WU P ts x
  | .min, x :: r => LJ false x r
  | .max, x :: r => LJ true x r
  | _, _ => none
 | _ => none
def Ew : AA → Option Nat
 | .ptr (some (id, _)) => some id
 | .slice (some (id, _)) _ => some id
 | .map (some id) => some id
 | .chan (some id) => some id
 | _ => none
def DX (fr : Fr) : Op → Option Nat
 | .load _ x => Ew (ev fr x)
 | .slice _ x _ _ _ => Ew (ev fr x)
 | .convert _ _ x => Ew (ev fr x)
 | .lookup _ x _ _ => Ew (ev fr x)
 | .call { args := as, .. } =>
  match as.toList with
  | [x] => Ew (ev fr x)
  | _ => none
 | _ => none
def KJ (G : Nat → Option (List AA)) (fr : Fr) (ob : Option B4) : Op → Option AA
 | .load t a =>
  match ev fr a with
  | .ptr (some (_, o)) => Gb P ob t o
  | .JZ g o => Gb P ((G g).map fun cs => .cells none 1 cs) t o
  | .A7 cs => Gb P (some (.cells none 1 cs)) t 0
  | _ => none
 | .slice t x lo hi none => QO P ob t (ev fr x) (lo.map (ev fr)) (hi.map (ev fr))
 | .convert s d x => PJ P ob s d (ev fr x)
 | .lookup t x k ok => K9 P ob t (ev fr x) (ev fr k) ok
 | .call { callee := .builtin .len, args := as, argTypes := ts } =>
  match as.toList with
  | [x] => Te P ob ts (ev fr x)
  | _ => none
 | _ => none
def O4 (fr : Fr) : Op → Option UQ
 | .alloc e => (HD P e).bind NT
 | .box _ x => NT (ev fr x)
 | .buildSlice t len parts => KR P t len (parts.toList.map fun (i, x) => (i, ev fr x))
 | .convert s d x => Ua P s d (ev fr x)
 | .makeMap _ none => some (fun n => .map (some n), .map 2 [])
 | .makeSlice t l c => Jz P t (ev fr l) (ev fr c)
 | .makeChan t n =>
  match P.underlying t, ev fr n with
  | some (.chan _ e), .int _ n =>
   match P.info? e with
   | some i => if 0 ≤ n ∧ n ≤ 1099511627776 ∧ i.bytes * n ≤ 1099511627776 then some (fun k => .chan (some k), .chan n.toNat []) else none
   | none => none
  | _, _ => none
 | .range t x =>
  match P.underlying t, ev fr x with
  | some .string, .str s => some (fun n => .ptr (some (n, 0)), .iter s 0)
  | _, _ => none
 | _ => none
def SK (g : Gd) (h : AH) (s d : TypeId) (x : AA) : Option (AA × AH) :=
 match P.underlying s, P.underlying d, x with
 | some (.slice _), some (.slice e), .slice (some (id, o)) n =>
  match P.underlying e, h.get id with
  | some (.int .u8), some (.cells gr 2 cs) => bif Nat.beq s d && (g.may id && !(Nat.beq n 0)) then some (.slice (some (id, o)) n, h.set id (.cells gr 2 cs)) else none
  | _, _ => none
 | _, _, _ => none
def KP (g : Gd) (h : AH) (fr : Fr) : Op → Option (AA × AH)
 | .convert s d x => SK P g h s d (ev fr x)
 | .store t a x =>
  match ev fr a with
  | .ptr (some (id, o)) => (K1 P g h t id o (ev fr x)).map (.tuple [], ·)
  | _ => none
 | .mapUpdate t m k v | .insert t m k v => (GP P g h t (ev fr m) (ev fr k) (ev fr v)).map (.tuple [], ·)
 | .next it true =>
  match ev fr it with
  | .ptr (some (id, 0)) =>
   match h.get id with
   | some (.iter s pos) =>
    if g.may id = true then
     if pos < s.length then
      some (.tuple [.bool true, .int .i64 pos, .int .i32 (Utf8.decode ⟨⟨s⟩⟩ pos).1], h.set id (.iter s (pos + (Utf8.decode ⟨⟨s⟩⟩ pos).2)))
     else some (.tuple [.bool false], h)
    else none
   | _ => none
  | _ => none
 | .call { callee := .builtin b, args := as, argTypes := ts } =>
  match b, as.toList.map (ev fr) with
  | .append, [s, x] => L3 P g h ts s x
  | .copy, [d, x] => SL P g h ts d x
  | .delete, [m, k] => (LF P g h ts m k).map (.tuple [], ·)
  | _, _ => none
 | _ => none
def Ih (G : Nat → Option (List AA)) (g : Gd) (h : AH) (fr : Fr) (op : Op) : Option (AA × AH) :=
 match BE P op with
 | 0 => (Iv P fr op).map (·, h)
 | 1 =>
  match DX fr op with
  | none => (KJ P G fr none op).map (·, h)
  | some id =>
   match h.get id with
   | some ob => (KJ P G fr (some ob) op).map (·, h)
   | none => none
 | 2 => (O4 P fr op).map fun x => (x.1 h.size, h.push x.2)
 | _ => KP P g h fr op
end
structure HU where
 P : Program
 kind : Nat → Nat
 Kb : Nat → Nat → List (Nat × List Nat)
 ext : Nat → Gd → AH → List AA → Option (AA × AH)
 Dw : Nat → Option (List AA) := fun _ => none
 UC : FuncId → Code → Code → Bool := fun _ _ _ => false
 still : FuncId → List Bool := fun _ => []
inductive C9 where
 | normal
 | exit (id : Nat)
 | ret
structure Self where
 call : Gd → AH → FuncId → List AA → Option (AA × AH)
 loop : Gd → FuncId → Code → Fr → AH → Option (C9 × Fr × AH)
 round : Gd → AH → Nat → List AA → Option (AA × AH)
section
variable (C : HU) (S : Self)
def Bc (g : Gd) (h : AH) (fr : Fr) (op : Op) : Option (AA × AH) :=
 match op with
 | .call { callee := .value x, args := as, .. } =>
  match ev fr x with
  | .func (.func f) first cap => S.call g h f (first ++ (as.toList.map (ev fr) ++ cap))
  | .Mi l => S.round g h l (as.toList.map (ev fr))
  | _ => none
 | op => Ih C.P C.Dw g h fr op
def Cs (ops : Array Oper) (fr : Fr) (o : Oper) : Option Bool :=
 match o.guard with
 | none => some true
 | some (j, want) =>
  match (ops[j]?).bind (·.dst) with
  | none => some false
  | some d =>
   match nth fr d with
   | .bool b => some (b == want)
   | .undef => none
   | _ => some false
def GY (g : Gd) (ops : Array Oper) : List Oper → Fr → AH → Option (Fr × AH)
 | [], fr, h => some (fr, h)
 | o :: rest, fr, h =>
  match Cs ops fr o with
  | some true =>
   match Bc C S g h fr o.op with
   | some (v, h') => GY g ops rest (put fr o.dst v) h'
   | none => none
  | some false => GY g ops rest (put fr o.dst (.tuple [])) h
  | none => none
def Hy (tch : List (Nat × Nat)) (U : List Nat) : List Nat := tch.filterMap fun (i, id) => bif U.any (Nat.beq i) then some id else none
def GQ (P : Program) (h : AH) (fr : Fr) (i : Nat) (op : Op) (tch : List (Nat × Nat)) : List (Nat × Nat) :=
 match BE P op with
 | 1 => match DX fr op with | some id => (i, id) :: tch | none => tch
 | 2 => (i, h.size) :: tch
 | _ => tch
def TU : AA → AA → Bool
 | .ptr (some (a, b)), .ptr (some (c, d)) => Nat.beq a c && Nat.beq b d
 | .int k a, .int k' b => decide (k = k') && decide (a = b)
 | .bool a, .bool b => a == b
 | .str a, .str b => decide (a = b)
 | .G7 0 [], .G7 0 [] => true
 | _, _ => false
def Vi (ops : Array Oper) (fr : Fr) (h : AH) (i : Nat) : Bool :=
 match ops[i]? with
 | some o =>
  match Cs ops fr o with
  | some false => true
  | some true =>
   match o.dst, DX fr o.op with
   | some d, some id =>
    Nat.blt d fr.length && (match h.get id with
     | some ob => (match KJ C.P C.Dw fr (some ob) o.op with | some v => TU v (nth fr d) | none => false)
     | none => false)
   | _, _ => false
  | none => false
 | none => false
def NO (ops : Array Oper) (U : List Nat) (fr : Fr) (h : AH) : Bool := U.all fun u => Nat.blt u 10000 || Vi C ops fr h (u - 10000)
def Cr (g : Gd) (ops : Array Oper) : List (Nat × List Nat) → List (Nat × Nat) → Fr → AH → Option (Fr × AH)
 | [], _, fr, h => some (fr, h)
 | (i, U) :: rest, tch, fr, h =>
  match ops[i]? with
  | none => none
  | some o =>
   match Cs ops fr o with
   | some true =>
    match Bc C S ⟨g.floor, Hy tch U ++ g.BU⟩ h fr o.op with
    | some (v, h') => bif NO C ops U (put fr o.dst v) h' then Cr g ops rest (GQ C.P h fr i o.op tch) (put fr o.dst v) h' else none
    | none => none
   | some false => Cr g ops rest tch (put fr o.dst (.tuple [])) h
   | none => none
def Ms (P : Program) (f : FuncId) : Bool :=
 match P.funcs[f]? with
 | some fn => fn.body.isSome && !(fn.name == "runtime.NumGoroutine")
 | none => false
def BV (f : FuncId) (g : Gd) : Code → Fr → AH → Option (C9 × Fr × AH)
 | .skip, fr, h => some (.normal, fr, h)
 | .label _, fr, h => some (.normal, fr, h)
 | .region id ops draw, fr, h =>
  match (bif draw then Cr C S g ops (C.Kb f id) [] fr h else GY C S g ops ops.toList fr h) with
  | some (fr', h') => some (.normal, fr', h')
  | none => none
 | .seq a b, fr, h =>
  match BV f g a fr h with
  | some (.normal, fr', h') => BV f g b fr' h'
  | r => r
 | .cond c a b, fr, h =>
  match ev fr c with
  | .bool true => BV f g a fr h
  | .bool false => BV f g b fr h
  | _ => none
 | .block id c, fr, h =>
  match BV f g c fr h with
  | some (.exit i, fr', h') => bif Nat.beq i id then some (.normal, fr', h') else some (.exit i, fr', h')
  | r => r
 | .loop c, fr, h =>
  match BV f g c fr h with
  | some (.normal, fr', h') => S.loop g f c fr' h'
  | r => r
 | .scope c, fr, h => BV f g c fr h
 | .exit id, fr, h => some (.exit id, fr, h)
 | .ret, fr, h => some (.ret, fr, h)
 | .rangeFunc x ps a b, fr, h =>
  match ev fr x with
  | .func (.func f') first cap =>
   bif !Ms C.P f' then none else
   match S.call g (h.push (.loop 0 none f fr ps.toList a b)) f' (first ++ ([.Mi h.size] ++ cap)) with
   | some (_, h2) =>
    match h2.get h.size with
    | some (.loop st pend f2 fr2 ps2 a2 b2) =>
     bif Nat.beq st 1 || !g.may h.size then none else
     match pend with
     | none => some (.normal, fr, h2.set h.size (.loop 3 pend f2 fr2 ps2 a2 b2))
     | some .ret => some (.ret, fr, h2.set h.size (.loop 3 pend f2 fr2 ps2 a2 b2))
     | some (.exit i) => some (.exit i, fr, h2.set h.size (.loop 3 pend f2 fr2 ps2 a2 b2))
     | _ => none
    | _ => none
   | none => none
  | _ => none
 | _, _, _ => none
def K3 : List Tmp → List AA → Fr → Fr
 | p :: ps, v :: vs, fr => K3 ps vs (fr.set p v)
 | _, _, fr => fr
def XG : Option Code → Nat
 | none => 0
 | some _ => 2
def Gi (g : Gd) (l : Nat) (j : Option Code) (h : AH) : Option (AA × AH) :=
 match h.get l with
 | some (.loop _ _ f fr ps a b) => bif g.may l then some (.bool j.isNone, h.set l (.loop (XG j) j f fr ps a b)) else none
 | _ => none
def KZ (g : Gd) (h : AH) (l : Nat) (args : List AA) : Option (AA × AH) :=
 match h.get l with
 | some (.loop 0 _ f fr ps a b) =>
  bif Nat.beq args.length ps.length && (g.may l && C.UC f a b) then
   match BV C S f g a (K3 ps args fr) h with
   | some (.normal, fr1, h1) =>
    match h1.get l with
    | some (.loop 0 pend f2 fr2 ps2 a2 b2) =>
     match BV C S f g b fr1 (h1.set l (.loop 1 pend f2 fr2 ps2 a2 b2)) with
     | some (.normal, _, h3) => Gi g l none h3
     | some (.ret, _, h3) => Gi g l (some .ret) h3
     | some (.exit i, _, h3) => Gi g l (some (.exit i)) h3
     | none => none
    | _ => none
   | _ => none
  else none
 | _ => none
def UH (P : Program) (g : Gd) (h : AH) (fr : Fr) : Op → Option (AA × AH)
 | .select cases blocking =>
  match cases.toList, blocking with
  | [c], false =>
   match HD P c.elem with
   | some z =>
    match ev fr c.chan with
    | .chan (some id) =>
     match h.get id with
     | some (.chan cap buf) =>
      match c.send with
      | some x =>
       bif Nat.ble cap buf.length then some (.tuple [.int .i64 (-1), .bool false], h)
       else bif g.may id then some (.tuple [.int .i64 0, .bool false], h.set id (.chan cap (buf ++ [ev fr x])))
       else none
      | none =>
       match buf with
       | v :: rest => bif g.may id then some (.tuple [.int .i64 0, .bool true, v], h.set id (.chan cap rest)) else none
       | [] => some (.tuple [.int .i64 (-1), .bool false, z], h)
     | _ => none
    | _ => none
   | none => none
  | _, _ => none
 | _ => none
def Kf : Code → Bool
 | .region _ ops draw => !draw && (match ops[0]? with | some o => (match o.op with | .select _ _ => o.guard.isNone | _ => false) | none => false)
 | _ => false
def JQ (g : Gd) : Code → Fr → AH → Option (C9 × Fr × AH)
 | .region _ ops _, fr, h =>
  match ops.toList with
  | o :: rest =>
   match UH C.P g h fr o.op with
   | some (v, h') =>
    match GY C S g ops rest (put fr o.dst v) h' with
    | some (fr', h') => some (.normal, fr', h')
    | none => none
   | none => none
  | [] => none
 | _, _, _ => none
def I5 (f : FuncId) (g : Gd) : Code → Fr → AH → Option (C9 × Fr × AH)
 | .seq a b, fr, h =>
  match I5 f g a fr h with
  | some (.normal, fr', h') => I5 f g b fr' h'
  | r => r
 | c, fr, h => bif Kf c then JQ C S g c fr h else BV C S f g c fr h
def HT (P : Program) (fr : Fr) (h : AH) : ResultVar → Option AA
 | .tmp t => some (nth fr t)
 | .cell a t =>
  match nth fr a with
  | .ptr (some (id, o)) => Gb P (h.get id) t o
  | _ => none
def GN (P : Program) (fn : Func) (fr : Fr) (h : AH) : Option AA :=
 match fn.results.toList.mapM (HT P fr h) with
 | some [v] => some v
 | some vs => some (.tuple vs)
 | none => none
def Fq : AA → Bool
 | .bool _ | .int _ _ | .str _ | .ptr none | .slice none _ | .map none | .chan none | .nilFunc | .nilIface => true
 | _ => false
def Ia : AA → Bool
 | .agg cs => cs.all Fq
 | v => Fq v
def MF : AA → Bool
 | .tuple vs => vs.all Ia
 | v => Ia v
def IZ (g : Gd) (h : AH) (f : FuncId) (args : List AA) : Option (AA × AH) :=
 match C.P.funcs[f]? with
 | none => none
 | some fn =>
  match fn.body with
  | none => none
  | some c =>
   match BV C S f g c (args ++ List.replicate (fn.ntmps - args.length) (.tuple [])) h with
   | some (.normal, fr, h') => (GN C.P fn fr h').map (·, h')
   | some (.ret, fr, h') => (GN C.P fn fr h').map (·, h')
   | _ => none
def PF (g : Gd) (h : AH) (f : FuncId) (args : List AA) : Option (AA × AH) :=
 match C.P.funcs[f]? with
 | none => none
 | some fn =>
  match fn.body with
  | none => none
  | some c =>
   match I5 C S f g c (args ++ List.replicate (fn.ntmps - args.length) (.tuple [])) h with
   | some (.normal, fr, h') => (GN C.P fn fr h').map (·, h')
   | some (.ret, fr, h') => (GN C.P fn fr h').map (·, h')
   | _ => none
def IX (f : AH → AA → Option (AA × AH)) : List AA → AH → Option (List AA × AH)
 | [], h => some ([], h)
 | v :: vs, h =>
  match f h v with
  | some (v', h1) => (IX f vs h1).map fun r => (v' :: r.1, r.2)
  | none => none
def Mq (g : Gd) (h : AH) : AA → Option (AA × AH)
 | .agg cs => (IX (Fx g) cs h).map fun r => (.agg r.1, r.2)
 | v => Fx g h v
def Og (g : Gd) (h : AH) : AA → Option (AA × AH)
 | .tuple vs => (IX (Mq g) vs h).map fun r => (.tuple r.1, r.2)
 | v => Mq g h v
def Km (g : Gd) (h : AH) : AA → Option (AA × AH)
 | .ptr (some (id, 0)) =>
  match h.get id with
  | some (.cells none 2 cs) => bif g.may id then (IX (Fx g) cs (h.set id (.cells none 0 cs))).map fun r => (.A7 r.1, r.2) else none
  | _ => none
 | v => Mq g h v
def Qz (g : Gd) (h : AH) : AA → Option (AA × AH)
 | .tuple vs => (IX (Km g) vs h).map fun r => (.tuple r.1, r.2)
 | v => Km g h v
def Tg : AA → AA
 | .agg cs => .agg (cs.map GS)
 | v => GS v
def BI : List Bool → List AA → List AA
 | true :: bs, v :: vs => Tg v :: BI bs vs
 | false :: bs, v :: vs => v :: BI bs vs
 | _, vs => vs
def IA (g : Gd) (h : AH) (f : FuncId) (args : List AA) : Option (AA × AH) :=
 match C.kind f with
 | 1 => IZ C S g h f (BI (C.still f) args)
 | 2 =>
  match IZ C S ⟨h.size, []⟩ h f args with
  | some (v, _) => bif MF v then some (v, h) else none
  | none => none
 | 3 => C.ext f g h args
 | 4 =>
  bif args.all Ia then
   match IZ C S ⟨0, []⟩ ⟨0, .leaf⟩ f args with
   | some (v, _) => bif MF v then some (v, h) else none
   | none => none
  else none
 | 7 =>
  match IZ C S g h f (BI (C.still f) args) with
  | some (v, h') => Og g h' v
  | none => none
 | 8 => PF C S g h f (BI (C.still f) args)
 | 9 =>
  match IZ C S g h f (BI (C.still f) args) with
  | some (v, h') => Qz g h' v
  | none => none
 | _ => none
end
def DN (C : HU) : Nat → Self
 | 0 => ⟨fun _ _ _ _ => none, fun _ _ _ _ _ => none, fun _ _ _ _ => none⟩
 | n + 1 => ⟨IA C (DN C n), fun g f c => BV C (DN C n) f g (.loop c), KZ C (DN C n)⟩
def Wl (C : HU) (n : Nat) (g : Gd) (h : AH) (f : FuncId) (args : List AA) : Option (AA × AH) := (DN C n).call g h f args
end Go.Av
