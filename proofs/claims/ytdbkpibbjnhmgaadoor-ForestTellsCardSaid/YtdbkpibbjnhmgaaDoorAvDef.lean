/-
 A part.
-/
import Derived.Calls
namespace Go.Av
inductive AA where
 | undef
 | bool (b : Bool)
 | int (k : IntKind) (n : Int)
 | str (s : List UInt8)
 | ptr (r : Option (Nat × Nat))
 | GK (g o : Nat)
 | slice (r : Option (Nat × Nat)) (len : Nat)
 | map (r : Option Nat)
 | chan (r : Option Nat)
 | func (fn : Fn) (first captured : List AA)
 | nilFunc
 | iface (t : TypeId) (v : AA)
 | nilIface
 | agg (cs : List AA)
 | tuple (vs : List AA)
 | Ev (n : Nat) (cs : List AA)
 | DF (cs : List AA)
 | Fw (l : Nat)
 deriving Inhabited
inductive A9 where
 | cells (grow : Option TypeId) (st : Nat) (cs : List AA)
 | map (st : Nat) (es : List (AA × AA))
 | iter (s : List UInt8) (pos : Nat)
 | loop (st : Nat) (pend : Option Code) (f : FuncId) (fr : List AA) (ps : List Tmp) (a b : Code)
 | chan (cap : Nat) (buf : List AA)
 deriving Inhabited
inductive Tr (α : Type) where
 | leaf
 | node (l : Tr α) (v : Option α) (r : Tr α)
def Tr.get {α : Type} : Tr α → Nat → Option α
 | .leaf, _ => none
 | .node l v r, i => bif Nat.beq i 0 then v else bif Nat.beq (i % 2) 1 then l.get (i / 2) else r.get (i / 2 - 1)
def Tr.set {α : Type} : Nat → Tr α → Nat → α → Tr α
 | 0, t, _, _ => t
 | f + 1, .leaf, i, x => bif Nat.beq i 0 then .node .leaf (some x) .leaf else bif Nat.beq (i % 2) 1 then .node (Tr.set f .leaf (i / 2) x) none .leaf else .node .leaf none (Tr.set f .leaf (i / 2 - 1) x)
 | f + 1, .node l v r, i, x => bif Nat.beq i 0 then .node l (some x) r else bif Nat.beq (i % 2) 1 then .node (Tr.set f l (i / 2) x) v r else .node l v (Tr.set f r (i / 2 - 1) x)
structure AB where
 size : Nat
 tr : Tr A9
def AB.get (h : AB) (i : Nat) : Option A9 := bif Nat.blt i h.size then h.tr.get i else none
def AB.set (h : AB) (i : Nat) (o : A9) : AB := ⟨h.size, Tr.set (i + 1) h.tr i o⟩
def AB.push (h : AB) (o : A9) : AB := ⟨h.size + 1, Tr.set (h.size + 1) h.tr h.size o⟩
structure Gd where
 floor : Nat
 Bg : List Nat
def Gd.may (g : Gd) (id : Nat) : Bool := Nat.ble g.floor id && !(g.Bg.any (Nat.beq id))
abbrev Fr := List AA
def nth : List AA → Nat → AA
 | [], _ => .tuple []
 | a :: _, 0 => a
 | _ :: l, i + 1 => nth l i
def put (fr : Fr) (dst : Option Tmp) (v : AA) : Fr :=
 match dst with
 | some d => fr.set d v
 | none => fr
def AA.one : AA → Bool
 | .undef | .agg _ | .tuple _ => false
 | _ => true
def AA.cells? : AA → Option (List AA)
 | .undef | .tuple _ => none
 | .agg cs => some cs
 | v => some [v]
def KL : Value → AA
 | .bool b => .bool b
 | .int k n => .int k n
 | .string s => .str s.data.toList
 | .pointer none => .ptr none
 | .slice none 0 0 => .slice none 0
 | .map none => .map none
 | .chan none => .chan none
 | .nilFunc => .nilFunc
 | .nilIface => .nilIface
 | _ => .undef
def Te : Value → AA
 | .agg cs => .agg (cs.toList.map KL)
 | .tuple vs => .tuple (vs.toList.map KL)
 | v => KL v
def ev (fr : Fr) : Operand → AA
 | .tmp t => nth fr t
 | .const v => Te v
 | .global g => .GK g 0
 | .func f => .func (.func f) [] []
def C1 (cs : List AA) (o : Nat) (new : List AA) : List AA := cs.take o ++ (new ++ cs.drop (o + new.length))
section
variable (P : Program)
def Bf (t : TypeId) : Option Nat := (P.info? t).map (·.size)
def Hd (t : TypeId) : Option Bool :=
 match P.underlying t with
 | some (.struct _) | some (.array _ _) => some true
 | some _ => some false
 | none => none
def CB (ob : Option A9) (o n : Nat) : Option (List AA) :=
 match ob with
 | some (.cells _ st cs) => if st ≠ 0 ∧ o + n ≤ cs.length then some ((cs.drop o).take n) else none
 | _ => none
def Ek (ob : Option A9) (t : TypeId) (o : Nat) : Option AA :=
 match Hd P t with
 | some true => (Bf P t).bind fun n => (CB ob o n).map .agg
 | some false =>
  match CB ob o 1 with
  | some [v] => some v
  | _ => none
 | none => none
def Dl : AA → AA
 | .slice _ 0 => .Ev 0 []
 | v => v
def JR : Option TypeId → List AA → List AA
 | none, l => l
 | some _, l => l.map Dl
def Bq (g : Gd) (h : AB) (id o : Nat) (new : List AA) : Option AB :=
 match h.get id with
 | some (.cells gr 2 cs) => if g.may id = true ∧ o + new.length ≤ cs.length ∧ new.all AA.one = true then some (h.set id (.cells gr 2 (C1 cs o (JR gr new)))) else none
 | _ => none
def IT (g : Gd) (h : AB) (t : TypeId) (id o : Nat) (v : AA) : Option AB :=
 match v.cells?, Bf P t with
 | some new, some n => if new.length = n then Bq g h id o new else none
 | _, _ => none
abbrev S8 := (Nat → AA) × A9
def K1 (v : AA) : Option S8 :=
 match v.cells? with
 | some cs => if cs.all AA.one = true then some (fun n => .ptr (some (n, 0)), .cells none 2 cs) else none
 | none => none
def Ec (t : TypeId) : Option AA :=
 match P.info? t with
 | some i => i.zero.map Te
 | none => none
def HD (place : Nat → Option (Nat × Nat)) (cells : List AA) : List (Nat × AA) → Option (List AA)
 | [] => some cells
 | (i, v) :: rest =>
  match place i, v.cells? with
  | some (off, size), some new => if new.length = size ∧ off + size ≤ cells.length then HD place (C1 cells off new) rest else none
  | _, _ => none
def Na (fs : List Field) : Option (List (Nat × Nat)) := fs.mapM fun f => (P.info? f.type).map fun i => (f.offset, i.size)
def Pt (t : TypeId) (parts : List (Nat × AA)) : Option AA :=
 match P.underlying t, (Ec P t).bind AA.cells? with
 | some (.array _ e), some z => (Bf P e).bind fun n => (HD (fun i => some (i * n, n)) z parts).map .agg
 | some (.struct fs), some z => (Na P fs.toList).bind fun ps => (HD (ps[·]?) z parts).map .agg
 | _, _ => none
def Cq (z : List AA) : Nat → List AA
 | 0 => []
 | n + 1 => z ++ Cq z n
def Hm (t : TypeId) (len : Nat) (parts : List (Nat × AA)) : Option S8 :=
 match P.underlying t with
 | some (.slice e) =>
  match Bf P e, (Ec P e).bind AA.cells? with
  | some n, some z =>
   if len * n ≤ 16777216 ∧ z.length = n ∧ n ≠ 0 then
    match HD (fun i => some (i * n, n)) (Cq z len) parts with
    | some cs => if (cs.map Dl).all AA.one = true then some (fun n => .slice (some (n, 0)) len, .cells (some e) 2 (cs.map Dl)) else none
    | none => none
   else none
  | _, _ => none
 | _ => none
def LS (op : BinOp) (k : IntKind) (a b : Int) : Option AA :=
 match op with
 | .add => some (.int k (k.wrap (a + b)))
 | .sub => some (.int k (k.wrap (a - b)))
 | .mul => some (.int k (k.wrap (a * b)))
 | .quo => if b = 0 then none else some (.int k (k.wrap (a.tdiv b)))
 | .rem => if b = 0 then none else some (.int k (a.tmod b))
 | .and => some (.int k (k.wrap (BitVec.ofInt k.bits a &&& BitVec.ofInt k.bits b).toNat))
 | .or => some (.int k (k.wrap (BitVec.ofInt k.bits a ||| BitVec.ofInt k.bits b).toNat))
 | .xor => some (.int k (k.wrap (BitVec.ofInt k.bits a ^^^ BitVec.ofInt k.bits b).toNat))
 | .andNot => some (.int k (k.wrap (BitVec.ofInt k.bits a &&& ~~~BitVec.ofInt k.bits b).toNat))
 | .eql => some (.bool (a == b))
 | .neq => some (.bool (a != b))
 | .lss => some (.bool (decide (a < b)))
 | .leq => some (.bool (decide (a ≤ b)))
 | .gtr => some (.bool (decide (a > b)))
 | .geq => some (.bool (decide (a ≥ b)))
 | _ => none
def Po (op : BinOp) (k : IntKind) (a b : Int) : Option AA :=
 if b < 0 then none else
 match op with
 | .shl => some (.int k (k.wrap (a * 2 ^ (min b.toNat k.bits))))
 | .shr => some (.int k (a.fdiv (2 ^ (min b.toNat k.bits))))
 | _ => none
def M6 (op : BinOp) (a b : List UInt8) : Option AA :=
 match op with
 | .add => if a.length + b.length ≤ 9223372036854775807 then some (.str (a ++ b)) else none
 | .eql => some (.bool (a == b))
 | .neq => some (.bool !(a == b))
 | .lss => some (.bool (Op.bytesLess a b))
 | .leq => some (.bool (Op.bytesLess a b || a == b))
 | .gtr => some (.bool !(Op.bytesLess a b || a == b))
 | .geq => some (.bool !(Op.bytesLess a b))
 | _ => none
def HG (t : TypeId) (cs : List AA) (off : Nat) : Option AA :=
 match Hd P t with
 | some true => (Bf P t).bind fun n => if off + n ≤ cs.length then some (.agg ((cs.drop off).take n)) else none
 | some false => cs[off]?
 | none => none
def eqFields (eq : TypeId → AA → AA → Option Bool) (xs ys : List AA) : List Field → Option Bool
 | [] => some true
 | f :: fs =>
  if f.name = "_" then eqFields eq xs ys fs else
  match HG P f.type xs f.offset, HG P f.type ys f.offset with
  | some a, some b =>
   match eq f.type a b with
   | some true => eqFields eq xs ys fs
   | some false => some false
   | none => none
  | _, _ => none
def JP (eq : TypeId → AA → AA → Option Bool) (e : TypeId) (z : Nat) (xs ys : List AA) : Nat → Nat → Option Bool
 | 0, _ => some true
 | n + 1, i =>
  match HG P e xs (i * z), HG P e ys (i * z) with
  | some a, some b =>
   match eq e a b with
   | some true => JP eq e z xs ys n (i + 1)
   | some false => some false
   | none => none
  | _, _ => none
def HP : Nat → TypeId → AA → AA → Option Bool
 | 0, _, _, _ => none
 | d + 1, t, x, y =>
  match P.underlying t, x, y with
  | some .bool, .bool a, .bool b => some (a == b)
  | some (.int _), .int k a, .int k' b => if k = k' then some (a == b) else none
  | some .string, .str a, .str b => some (a == b)
  | some (.pointer _), .ptr none, .ptr b => some b.isNone
  | some (.pointer _), .ptr (some _), .ptr none => some false
  | some (.pointer _), .DF _, .ptr none => some false
  | some (.map _ _), .map none, .map b => some b.isNone
  | some (.map _ _), .map (some _), .map none => some false
  | some (.func _ _ _), .nilFunc, .nilFunc => some true
  | some (.func _ _ _), .nilFunc, .func _ _ _ => some false
  | some (.func _ _ _), .func _ _ _, .nilFunc => some false
  | some (.struct fs), .agg xs, .agg ys => if P.stoodInHeld t = true then none else eqFields P (HP d) xs ys fs.toList
  | some (.array n e), .agg xs, .agg ys => (Bf P e).bind fun z => JP P (HP d) e z xs ys n 0
  | _, _, _ => none
def S5 : AA → Bool
 | .bool _ | .ptr _ | .slice _ _ | .map _ | .nilFunc | .func _ _ _ | .Ev _ _ | .DF _ => true
 | _ => false
def UP (op : BinOp) (t : TypeId) (x y : AA) : Option AA :=
 match x, y with
 | .int k a, .int k' b =>
  match op with
  | .shl | .shr => Po op k a b
  | _ => if k = k' then LS op k a b else none
 | .str a, .str b => M6 op a b
 | .agg xs, .agg ys =>
  if P.eqGuardType P.depth t = true then none else
  match op with
  | .eql => (HP P 10000 t (.agg xs) (.agg ys)).map .bool
  | .neq => (HP P 10000 t (.agg xs) (.agg ys)).map fun b => .bool !b
  | _ => none
 | x, y =>
  if S5 x = true then
   match op with
   | .eql => (HP P 10000 t x y).map .bool
   | .neq => (HP P 10000 t x y).map fun b => .bool !b
   | _ => none
  else none
def VG : Operand → Bool
 | .const _ => true
 | _ => false
def Wz (op : BinOp) (t : TypeId) (c : Bool) : Option AA :=
 match P.underlying t with
 | some (.interface _) => bif c then (match op with | .eql => some (.bool true) | .neq => some (.bool false) | _ => none) else none
 | _ => none
def UN (op : BinOp) (t : TypeId) (c : Bool) (x y : AA) : Option AA :=
 match x, y with
 | .nilIface, .nilIface => Wz P op t c
 | x, y => UP P op t x y
def XI (op : UnOp) (x : AA) : Option AA :=
 match op, x with
 | .neg, .int k n => LS .sub k 0 n
 | .xor, .int k n => LS .xor k (if k.signed then -1 else k.max) n
 | .not, .bool b => some (.bool !b)
 | _, _ => none
def bytesOf : List AA → Option (List UInt8)
 | [] => some []
 | .int .u8 n :: r => (bytesOf r).map (UInt8.ofNat n.toNat :: ·)
 | _ => none
def SC (src dst : TypeId) (x : AA) : Option AA :=
 match P.underlying src, P.underlying dst, x with
 | some _, some (.int k), .int _ n => some (.int k (k.wrap n))
 | some _, some .string, .str s => some (.str s)
 | some _, some .string, .int _ n => some (.str (Utf8.encode n).data.toList)
 | _, _, _ => none
def TP (src dst : TypeId) (x : AA) : Option S8 :=
 match P.underlying src, P.underlying dst, x with
 | some _, some (.slice e), .str s =>
  match P.underlying e, Bf P e with
  | some (.int .u8), some 1 => if s.length ≤ 1099511627776 then some (fun n => .slice (some (n, 0)) s.length, .cells (some e) 2 (s.map fun b => .int .u8 b.toNat)) else none
  | _, _ => none
 | _, _, _ => none
def S1 (ob : Option A9) (src dst : TypeId) (x : AA) : Option AA :=
 match P.underlying src, P.underlying dst, x with
 | some (.slice e), some .string, .slice r n =>
  match P.underlying e with
  | some (.int .u8) =>
   match r with
   | none => some (.str [])
   | some (_, o) => if n = 0 then some (.str []) else (CB ob o n).bind fun cs => (bytesOf cs).map .str
  | _ => none
 | some (.slice e), some .string, .Ev n cs =>
  match P.underlying e with
  | some (.int .u8) => if cs.length = n then (bytesOf cs).map .str else none
  | _ => none
 | _, _, _ => none
def I9 (t : TypeId) (l c : AA) : Option S8 :=
 match P.underlying t, l, c with
 | some (.slice e), .int _ l, .int _ c =>
  match P.info? e with
  | some i =>
   match i.zero.map Te with
   | some z =>
    match z.cells?.map (·.map Dl) with
    | some zc =>
     if 0 ≤ l ∧ l ≤ c ∧ c ≤ 1099511627776 ∧ i.bytes * c ≤ 1099511627776 ∧ zc.length = i.size ∧ zc.all AA.one = true then
      some (fun n => .slice (some (n, 0)) l.toNat, .cells (some e) 2 (Cq zc c.toNat))
     else none
    | none => none
   | none => none
  | none => none
 | _, _, _ => none
def Co (n : Nat) (lo hi : Option AA) : Option (Nat × Nat) :=
 match hi with
 | some (.int _ u) =>
  if 0 ≤ u ∧ u ≤ n then
   match lo with
   | some (.int _ l) => if 0 ≤ l ∧ l ≤ u then some (l.toNat, u.toNat) else none
   | some _ => none
   | none => some (0, u.toNat)
  else none
 | some _ => none
 | none =>
  match lo with
  | some (.int _ l) => if 0 ≤ l ∧ l ≤ n then some (l.toNat, n) else none
  | some _ => none
  | none => some (0, n)
def Nj (t : TypeId) (x : AA) (lo hi : Option AA) : Option AA :=
 match P.underlying t, x with
 | some .string, .str s => (Co s.length lo hi).map fun (l, u) => .str ((s.drop l).take (u - l))
 | _, _ => none
def G4 (ob : Option A9) (t : TypeId) (x : AA) (lo hi : Option AA) : Option AA :=
 match P.underlying t, x with
 | some (.array n e), .ptr (some (id, o)) =>
  match ob with
  | some (.cells none _ _) => (Bf P e).bind fun z => (Co n lo hi).map fun (l, u) => .slice (some (id, o + l * z)) (u - l)
  | _ => none
 | some (.slice e), .slice none 0 => (Bf P e).bind fun _ => (Co 0 lo hi).map fun _ => .slice none 0
 | some (.slice e), .Ev n cs => (Bf P e).bind fun z => if cs.length = n * z then (Co n lo hi).map fun (l, u) => .Ev (u - l) ((cs.drop (l * z)).take ((u - l) * z)) else none
 | some (.slice e), .slice (some (id, o)) n =>
  match ob, Bf P e with
  | some (.cells none _ _), some z => (Co n lo hi).map fun (l, u) => .slice (some (id, o + l * z)) (u - l)
  | some (.cells (some e') _ _), some z => if Bf P e' = some z then (Co n lo hi).map fun (l, u) => .slice (some (id, o + l * z)) (u - l) else none
  | _, _ => none
 | _, _ => none
def I0 (s : TypeId) (x : AA) (f : Nat) : Option AA :=
 match P.underlying s, x with
 | some (.struct fs), .ptr (some (id, o)) =>
  match fs[f]? with
  | some fd =>
   match Bf P fd.type with
   | some 0 => none
   | some _ => some (.ptr (some (id, o + fd.offset)))
   | none => none
  | none => none
 | some (.struct fs), .GK g o =>
  match fs[f]? with
  | some fd =>
   match Bf P fd.type with
   | some 0 => none
   | some _ => some (.GK g (o + fd.offset))
   | none => none
  | none => none
 | some (.struct fs), .DF cs =>
  match fs[f]? with
  | some fd =>
   match Bf P fd.type with
   | some 0 => none
   | some _ => some (.DF (cs.drop fd.offset))
   | none => none
  | none => none
 | _, _ => none
def Pj (s : TypeId) (x : AA) (f : Nat) : Option AA :=
 match P.underlying s, x with
 | some (.struct fs), .agg cs =>
  match fs[f]? with
  | some fd => HG P fd.type cs fd.offset
  | none => none
 | _, _ => none
def Fq (t : TypeId) (x i : AA) : Option AA :=
 match P.underlying t, x, i with
 | some (.array n e), .ptr (some (id, o)), .int _ i => if 0 ≤ i ∧ i < n then (Bf P e).map fun z => .ptr (some (id, o + i.toNat * z)) else none
 | some (.slice e), .slice (some (id, o)) n, .int _ i => if 0 ≤ i ∧ i < n then (Bf P e).map fun z => .ptr (some (id, o + i.toNat * z)) else none
 | some (.array n e), .GK g o, .int _ i => if 0 ≤ i ∧ i < n then (Bf P e).map fun z => .GK g (o + i.toNat * z) else none
 | some (.array n e), .DF cs, .int _ i => if 0 ≤ i ∧ i < n then (Bf P e).map fun z => .DF (cs.drop (i.toNat * z)) else none
 | some (.slice e), .Ev n cs, .int _ i => if 0 ≤ i ∧ i < n then (Bf P e).bind fun z => if cs.length = n * z ∧ z ≠ 0 then some (.DF ((cs.drop (i.toNat * z)).take z)) else none else none
 | _, _, _ => none
def NK (t : TypeId) (x i : AA) : Option AA :=
 match P.underlying t, x, i with
 | some (.array n e), .agg cs, .int _ i => if 0 ≤ i ∧ i < n then (Bf P e).bind fun z => HG P e cs (i.toNat * z) else none
 | some .string, .str s, .int _ i => if 0 ≤ i then (s[i.toNat]?).map fun b => .int .u8 b.toNat else none
 | _, _, _ => none
def Cp (h : AB) (z n : Nat) : AA → Option (List AA)
 | .slice (some (id, o)) _ => if n = 0 then some [] else CB (h.get id) o (n * z)
 | .slice none _ => if n = 0 then some [] else none
 | .str s => if z = 1 then some ((s.take n).map fun b => .int .u8 b.toNat) else none
 | .Ev n' cs => if n ≤ n' ∧ cs.length = n' * z then some (cs.take (n * z)) else none
 | _ => none
def MT : AA → Option Nat
 | .slice _ n => some n
 | .Ev n _ => some n
 | .str s => some s.length
 | _ => none
def GM : TypeDesc → Bool
 | .int _ => false
 | _ => true
def appendCore (g : Gd) (h : AB) (e : TypeId) (i : TypeInfo) (r : Option (Nat × Nat)) (sl n : Nat) (x : AA) : Option (AA × AB) :=
 if n = 0 then some (.slice r sl, h)
 else if i.size ≠ 0 ∧ sl + n ≤ 1099511627776 ∧ (sl + n) * i.bytes ≤ 1099511627776 ∧ i.zero.map (·.cells.size) = some i.size then
  match (Cp h i.size n x).map (·.map Dl), Cp h i.size sl (.slice r sl) with
  | some new, some FY =>
   if (FY ++ new).all AA.one = true then
    match r with
    | none => some (.slice (some (h.size, 0)) (sl + n), h.push (.cells (some e) 2 (FY ++ new)))
    | some (id, _) =>
     match h.get id with
     | some (.cells (some e') 2 _) =>
      if g.may id = true ∧ e' = e then some (.slice (some (h.size, 0)) (sl + n), (h.set id (.cells (some e') 0 [])).push (.cells (some e) 2 (FY ++ new)))
      else none
     | _ => none
   else none
  | _, _ => none
 else none
def JX (g : Gd) (h : AB) (ts : Array TypeId) (s x : AA) : Option (AA × AB) :=
 match ts[0]?, ts[1]?, s, MT x with
 | some st, some xt, .slice r sl, some n =>
  match P.underlying st, P.underlying xt with
  | some (.slice e), some d =>
   match P.info? e with
   | some i => if GM d = true then appendCore g h e i r sl n x else none
   | none => none
  | _, _ => none
 | _, _, _, _ => none
def Qm (g : Gd) (h : AB) (ts : Array TypeId) (d x : AA) : Option (AA × AB) :=
 match ts[0]?, d, MT x with
 | some dt, .slice r dl, some sl =>
  match P.underlying dt with
  | some (.slice e) =>
   match Bf P e with
   | some z =>
    match Cp h z (min sl dl) x, r with
    | some new, some (id, o) => if min sl dl = 0 then some (.int .i64 0, h) else (Bq g h id o new).map fun h' => (.int .i64 (min sl dl : Nat), h')
    | some _, none => if min sl dl = 0 then some (.int .i64 0, h) else none
    | none, _ => none
   | none => none
  | _ => none
 | _, _, _ => none
def Vf (ts : Array TypeId) (x : AA) : Option AA :=
 match ts[0]? with
 | none => none
 | some t =>
  match P.underlying t, x with
  | some .string, .str s => some (.int .i64 s.length)
  | some (.array n _), _ => some (.int .i64 n)
  | some (.slice _), .slice _ n => some (.int .i64 n)
  | some (.slice _), .Ev n _ => some (.int .i64 n)
  | _, _ => none
def VQ (ob : Option A9) (ts : Array TypeId) (x : AA) : Option AA :=
 match ts[0]? with
 | none => none
 | some t =>
  match P.underlying t, x with
  | some (.map _ _), .map none => some (.int .i64 0)
  | some (.map _ _), .map (some _) =>
   match ob with
   | some (.map st es) => if st ≠ 0 then some (.int .i64 es.length) else none
   | _ => none
  | some (.chan _ _), .chan (some _) =>
   match ob with
   | some (.chan _ buf) => some (.int .i64 buf.length)
   | _ => none
  | _, _ => none
def IX (mx : Bool) : AA → List AA → Option AA
 | v, [] => some v
 | .int k a, .int k' b :: r => if k = k' then IX mx (.int k (if mx then (if b > a then b else a) else (if b < a then b else a))) r else none
 | _, _ => none
def DN (t : TypeId) (k : AA) : List (AA × AA) → Nat → Option (Option (Nat × AA))
 | [], _ => some none
 | (k', v) :: es, i =>
  match HP P 10000 t k k' with
  | some true => some (some (i, v))
  | some false => DN t k es (i + 1)
  | none => none
def ES : Nat → TypeId → AA → Bool
 | 0, _, _ => false
 | d + 1, t, v =>
  match P.underlying t, v with
  | some (.int _), .int _ _ => true
  | some .string, .str _ => true
  | some .bool, .bool _ => true
  | some (.struct fs), .agg cs => fs.toList.all (fun f => f.name != "_" && (match HG P f.type cs f.offset with | some x => ES d f.type x | none => false))
  | some (.array n e), .agg cs => (match Bf P e with | some z => (List.range n).all (fun i => match HG P e cs (i * z) with | some x => ES d e x | none => false) | none => false)
  | _, _ => false
def Ia (ob : Option A9) (t : TypeId) (x k : AA) (ok : Bool) : Option AA :=
 match P.underlying t, x with
 | some (.map kt et), .map r =>
  if ES P 20 kt k = true then
   match (match r with | none => some [] | some _ => match ob with | some (.map st es) => if st ≠ 0 then some es else none | _ => none) with
   | some es =>
    match DN P kt k es 0 with
    | some (some (_, v)) => some (if ok then .tuple [v, .bool true] else v)
    | some none => (Ec P et).map fun z => if ok then .tuple [z, .bool false] else z
    | none => none
   | none => none
  else none
 | _, _ => none
def LZ : AA → AA → Bool
 | .int k a, .int k' b => decide (k = k') && a == b
 | .str a, .str b => a == b
 | .bool a, .bool b => a == b
 | _, _ => false
def Il : AA → AA → Bool
 | .agg a, .agg b => a.length == b.length && (a.zip b).all fun p => LZ p.1 p.2
 | x, y => LZ x y
def Fm (g : Gd) (h : AB) : AA → Option (AA × AB)
 | .slice none 0 => some (.Ev 0 [], h)
 | .slice (some (id, 0)) n =>
  bif Nat.beq n 0 then some (.Ev 0 [], h) else
  match h.get id with
  | some (.cells gr 2 cs) => bif g.may id then some (.Ev n cs, h.set id (.cells gr 0 cs)) else none
  | some (.cells _ 0 (c :: cs)) => some (.Ev n (c :: cs), h)
  | _ => none
 | v => some (v, h)
def Gm (g : Gd) (h : AB) (t : TypeId) (m k v : AA) : Option AB :=
 match P.underlying t, m with
 | some (.map kt _), .map (some id) =>
  if ES P 20 kt k = true ∧ g.may id = true then
   match h.get id with
   | some (.map 2 es) =>
    match DN P kt k es 0 with
    | some (some (i, _)) =>
     match es[i]? with
     | some (k', _) => if Il k' k = true then some (h.set id (.map 2 (es.set i (k, v)))) else none
     | none => none
    | some none => some (h.set id (.map 2 (es ++ [(k, v)])))
    | none => none
   | _ => none
  else none
 | _, _ => none
def EY (g : Gd) (h : AB) (t : TypeId) (m k v : AA) : Option AB := (Fm g h v).bind fun r => Gm P g r.2 t m k r.1
def IV (g : Gd) (h : AB) (ts : Array TypeId) (m k : AA) : Option AB :=
 match ts[0]? with
 | none => none
 | some t =>
  match P.underlying t, m with
  | some (.map kt _), .map (some id) =>
   if ES P 20 kt k = true ∧ g.may id = true then
    match h.get id with
    | some (.map 2 es) =>
     match DN P kt k es 0 with
     | some (some (i, _)) => some (h.set id (.map 2 (es.eraseIdx i)))
     | some none => some h
     | none => none
    | _ => none
   else none
  | _, _ => none
def SJ : Operand → Bool
 | .tmp _ => true
 | _ => false
def Ry (t : TypeId) : Bool := match P.underlying t with | some (.pointer _) => true | _ => false
def LM (op : BinOp) (t : TypeId) (x y : Operand) : Bool :=
 match op with
 | .eql | .neq => SJ x && (SJ y && Ry P t)
 | _ => false
def AZ : Op → Nat
 | .binOp op t x y _ => bif LM P op t x y then 3 else 0
 | .move _ | .assign _ | .pick .. | .build .. | .nilCheck _ | .unOp .. | .makeFunc .. | .fieldAddr .. | .field .. | .indexAddr .. | .index .. | .extract .. => 0
 | .slice t .. => match P.underlying t with | some .string => 0 | _ => 1
 | .convert s d _ =>
  match P.underlying s, P.underlying d with
  | some (.slice _), some .string => 1
  | some (.slice _), some (.slice _) => 3
  | _, some (.slice _) => 2
  | _, _ => 0
 | .load .. | .lookup .. => 1
 | .alloc _ | .box .. | .buildSlice .. | .makeMap .. | .makeSlice .. | .range .. | .makeChan .. => 2
 | .call { callee := .builtin .len, argTypes := ts, .. } =>
  match ts[0]? with
  | some t => match P.underlying t with | some (.map _ _) => 1 | some (.chan _ _) => 1 | _ => 0
  | none => 0
 | .call { callee := .builtin .min, .. } | .call { callee := .builtin .max, .. } => 0
 | _ => 3
def GR (fr : Fr) : Op → Option AA
 | .move x | .assign x => some (ev fr x)
 | .pick c a b =>
  match ev fr c with
  | .bool b' => some (bif b' then ev fr a else ev fr b)
  | _ => none
 | .build t parts => Pt P t (parts.toList.map fun (i, x) => (i, ev fr x))
 | .nilCheck x =>
  match ev fr x with
  | .ptr (some r) => some (.ptr (some r))
  | .GK g o => some (.GK g o)
  | .DF cs => some (.DF cs)
  | .func (.func f) a b => some (.func (.func f) a b)
  | _ => none
 | .binOp op t x y _ => UN P op t (VG x || VG y) (ev fr x) (ev fr y)
 | .unOp op _ x => XI op (ev fr x)
 | .convert s d x => SC P s d (ev fr x)
 | .makeFunc fn first cap => some (.func fn (first.toList.map (ev fr)) (cap.toList.map (ev fr)))
 | .slice t x lo hi none => Nj P t (ev fr x) (lo.map (ev fr)) (hi.map (ev fr))
 | .fieldAddr s x f => I0 P s (ev fr x) f
 | .field s x f => Pj P s (ev fr x) f
 | .indexAddr t x i => Fq P t (ev fr x) (ev fr i)
 | .index t x i => NK P t (ev fr x) (ev fr i)
 | .extract x i =>
  match ev fr x with
  | .tuple vs => vs[i]?
  | _ => none
 | .call { callee := .builtin b, args := as, argTypes := ts } =>
  match b, as.toList.map (ev fr) with
  | .len, [x] => Vf P ts x
  | .min, x :: r => IX false x r
  | .max, x :: r => IX true x r
  | _, _ => none
 | _ => none
def DD : AA → Option Nat
 | .ptr (some (id, _)) => some id
 | .slice (some (id, _)) _ => some id
 | .map (some id) => some id
 | .chan (some id) => some id
 | _ => none
def CJ (fr : Fr) : Op → Option Nat
 | .load _ x => DD (ev fr x)
 | .slice _ x _ _ _ => DD (ev fr x)
 | .convert _ _ x => DD (ev fr x)
 | .lookup _ x _ _ => DD (ev fr x)
 | .call { args := as, .. } =>
  match as.toList with
  | [x] => DD (ev fr x)
  | _ => none
 | _ => none
def HB (G : Nat → Option (List AA)) (fr : Fr) (ob : Option A9) : Op → Option AA
 | .load t a =>
  match ev fr a with
  | .ptr (some (_, o)) => Ek P ob t o
  | .GK g o => Ek P ((G g).map fun cs => .cells none 1 cs) t o
  | .DF cs => Ek P (some (.cells none 1 cs)) t 0
  | _ => none
 | .slice t x lo hi none => G4 P ob t (ev fr x) (lo.map (ev fr)) (hi.map (ev fr))
 | .convert s d x => S1 P ob s d (ev fr x)
 | .lookup t x k ok => Ia P ob t (ev fr x) (ev fr k) ok
 | .call { callee := .builtin .len, args := as, argTypes := ts } =>
  match as.toList with
  | [x] => VQ P ob ts (ev fr x)
  | _ => none
 | _ => none
def Mq (fr : Fr) : Op → Option S8
 | .alloc e => (Ec P e).bind K1
 | .box _ x => K1 (ev fr x)
 | .buildSlice t len parts => Hm P t len (parts.toList.map fun (i, x) => (i, ev fr x))
 | .convert s d x => TP P s d (ev fr x)
 | .makeMap _ none => some (fun n => .map (some n), .map 2 [])
 | .makeSlice t l c => I9 P t (ev fr l) (ev fr c)
 | .makeChan t n =>
  match P.underlying t, ev fr n with
  | some (.chan _ e), .int _ n =>
   match P.info? e with
   | some i => if 0 ≤ n ∧ n ≤ 1099511627776 ∧ i.bytes * n ≤ 1099511627776 then some (fun k => .chan (some k), .chan n.toNat []) else none
   | none => none
  | _, _ => none
 | .range t x =>
  match P.underlying t, ev fr x with
  | some .string, .str s => some (fun n => .ptr (some (n, 0)), .iter s 0)
  | _, _ => none
 | _ => none
def QX (g : Gd) (h : AB) (s d : TypeId) (x : AA) : Option (AA × AB) :=
 match P.underlying s, P.underlying d, x with
 | some (.slice _), some (.slice e), .slice (some (id, o)) n =>
  match P.underlying e, h.get id with
  | some (.int .u8), some (.cells (some gr) 2 cs) => bif Nat.beq s d && (g.may id && !(Nat.beq n 0)) then some (.slice (some (id, o)) n, h.set id (.cells (some gr) 2 cs)) else none
  | _, _ => none
 | _, _, _ => none
def IQ (g : Gd) (h : AB) (ts : Array TypeId) (s : AA) : Option AB :=
 match ts[0]?, s with
 | some t, .slice r n =>
  match P.underlying t with
  | some (.slice e) =>
   if n = 0 then some h else
   match r, (Ec P e).bind AA.cells? with
   | some (id, o), some z => Bq g h id o (Cq z n)
   | _, _ => none
  | _ => none
 | _, _ => none
def HA (h : AB) (t : TypeId) (i o j q : Nat) : Option Bool :=
 match P.underlying t with
 | some (.pointer e) =>
  match Bf P e, h.get i, h.get j with
  | some (_ + 1), some (.cells none 2 (_ :: _)), some (.cells none 2 (_ :: _)) => some (Nat.beq i j && Nat.beq o q)
  | _, _, _ => none
 | _ => none
def Gk (g : Gd) (h : AB) (fr : Fr) : Op → Option (AA × AB)
 | .binOp op t x y _ =>
  match op, ev fr x, ev fr y with
  | .eql, .ptr (some (i, o)), .ptr (some (j, q)) => (HA P h t i o j q).map fun b => (.bool b, h)
  | .neq, .ptr (some (i, o)), .ptr (some (j, q)) => (HA P h t i o j q).map fun b => (.bool !b, h)
  | _, _, _ => none
 | .convert s d x => QX P g h s d (ev fr x)
 | .store t a x =>
  match ev fr a with
  | .ptr (some (id, o)) => (IT P g h t id o (ev fr x)).map (.tuple [], ·)
  | _ => none
 | .mapUpdate t m k v | .insert t m k v => (EY P g h t (ev fr m) (ev fr k) (ev fr v)).map (.tuple [], ·)
 | .next it true =>
  match ev fr it with
  | .ptr (some (id, 0)) =>
   match h.get id with
   | some (.iter s pos) =>
    if g.may id = true then
     if pos < s.length then
      some (.tuple [.bool true, .int .i64 pos, .int .i32 (Utf8.decode ⟨⟨s⟩⟩ pos).1], h.set id (.iter s (pos + (Utf8.decode ⟨⟨s⟩⟩ pos).2)))
     else some (.tuple [.bool false], h)
    else none
   | _ => none
  | _ => none
 | .call { callee := .builtin b, args := as, argTypes := ts } =>
  match b, as.toList.map (ev fr) with
  | .append, [s, x] => JX P g h ts s x
  | .copy, [d, x] => Qm P g h ts d x
  | .delete, [m, k] => (IV P g h ts m k).map (.tuple [], ·)
  | .clear, [s] => (IQ P g h ts s).map (.tuple [], ·)
  | _, _ => none
 | _ => none
def GA (G : Nat → Option (List AA)) (g : Gd) (h : AB) (fr : Fr) (op : Op) : Option (AA × AB) :=
 match AZ P op with
 | 0 => (GR P fr op).map (·, h)
 | 1 =>
  match CJ fr op with
  | none => (HB P G fr none op).map (·, h)
  | some id =>
   match h.get id with
   | some ob => (HB P G fr (some ob) op).map (·, h)
   | none => none
 | 2 => (Mq P fr op).map fun x => (x.1 h.size, h.push x.2)
 | _ => Gk P g h fr op
end
structure ON where
 o8 : Array Oper
 b : Nat
 o9 : Array Oper
 tb : Tmp
 b2 : Nat
 Of : Array Oper
 body : Code
def RN : Code → Option ON
 | .seq (.region _ o8 false) (.block b (.loop (.seq (.region _ o9 false) (.seq (.cond (.tmp tb) .skip (.exit b')) (.block b2 (.seq (.region _ Of false) body)))))) => bif Nat.beq b b' && !Nat.beq b b2 then some ⟨o8, b, o9, tb, b2, Of, body⟩ else none
 | _ => none
def Sr (o9 : Array Oper) (tI tb : Tmp) : Option Tmp :=
 match o9.toList with
 | [n, x] =>
  match n.op, n.dst, n.guard, x.op, x.dst, x.guard with
  | .next (.tmp t) false, some tn, none, .extract (.tmp tn') 0, some tb', none => bif Nat.beq t tI && Nat.beq tn tn' && Nat.beq tb tb' && !Nat.beq tn tI && !Nat.beq tb tI then some tn else none
  | _, _, _, _, _, _ => none
 | _ => none
def TL (Of : Array Oper) (tI : Tmp) : Option (Tmp × List Oper) :=
 match Of.toList with
 | n :: rest =>
  match n.op, n.dst, n.guard with
  | .entry (.tmp t), some te, none => bif Nat.beq t tI && !Nat.beq te tI then some (te, rest) else none
  | _, _, _ => none
 | _ => none
def QG (n : Nat) : AA → Bool
 | .undef | .bool _ | .int _ _ | .str _ | .ptr none | .slice none _ | .map none | .nilFunc | .nilIface => true
 | .ptr (some (i, _)) => Nat.blt i n
 | .slice (some (i, _)) _ => Nat.blt i n
 | _ => false
def Lj (n : Nat) : AA → Bool
 | .agg cs => cs.all (QG n)
 | v => QG n v
def DS (ks : List Nat) : Nat → Fr → Fr
 | _, [] => []
 | i, a :: l => (bif ks.any (Nat.beq i) then a else .undef) :: DS ks (i + 1) l
def J8 (it : Nat) : AA → Bool
 | .ptr (some (a, b)) => Nat.beq a it && Nat.beq b 0
 | _ => false
abbrev N0 := Option (Nat × Option TypeId)
def DM (hh : AB) (ob : N0) (cs : List AA) : AB :=
 match ob with
 | none => hh
 | some (id, gr) => hh.set id (.cells gr 2 cs)
def Rq (n : Nat) : N0 → Gd
 | none => ⟨n, []⟩
 | some (id, _) => ⟨0, (List.range n).filter fun k => !Nat.beq k id⟩
def Sz (g : Gd) : N0 → Bool
 | none => true
 | some (id, _) => g.may id
def TM (h : AB) (fr : Fr) : Option Tmp → Option (N0 × List AA)
 | none => some (none, [])
 | some t =>
  match nth fr t with
  | .slice (some (id, _)) _ =>
   match h.get id with
   | some (.cells gr 2 cs) => some (some (id, gr), cs)
   | _ => none
  | _ => none
def Km : AA → Bool
 | .bool _ | .int _ _ | .str _ => true
 | _ => false
def QN (ob : N0) (h : AB) : Option (List AA) :=
 match ob with
 | none => some []
 | some (id, gr) =>
  match h.get id with
  | some (.cells gr' 2 cs) => if gr' = gr ∧ cs.all Km = true then some cs else none
  | _ => none
def QH (ks : List Nat) (n : Nat) (ob : N0) (fr : Fr) (h : AB) (r : Bool) : Option (Bool × Fr × List AA) :=
 bif (DS ks 0 fr).all (Lj n) then (QN ob h).map fun cs => (r, DS ks 0 fr, cs) else none
def C9 {α β : Type} (rnd : α → β → Option (Bool × α)) : List β → α → Option (Bool × α)
 | [], a => some (false, a)
 | p :: l, a =>
  match rnd a p with
  | some (false, b) => C9 rnd l b
  | r => r
def M5 (ks : List Nat) (n tn tb : Nat) : Bool := !ks.any (Nat.beq tn) && !ks.any (Nat.beq tb) && Nat.blt tn n && Nat.blt tb n
def Xx : Type := { d : Prop → Bool // (∀ p : Prop, d p = true → p) ∧ ∀ p q : Prop, d p = true → (p → q) → d q = true }
def Uf : Xx := ⟨fun _ => false, fun _ h => (nomatch h), fun _ _ h => (nomatch h)⟩
structure EP where
 P : Program
 kind : Nat → Nat
 Ib : Nat → Nat → List (Nat × List Nat)
 ext : Nat → Gd → AB → List AA → Option (AA × AB)
 CM : Nat → Option (List AA) := fun _ => none
 Rs : FuncId → Code → Code → Bool := fun _ _ _ => false
 still : FuncId → List Bool := fun _ => []
 V5 : FuncId → Nat → Option (List Nat × List Nat × Option Tmp) := fun _ _ => none
 dec : Xx := Uf
inductive BL where
 | normal
 | exit (id : Nat)
 | ret
structure Self where
 call : Gd → AB → FuncId → List AA → Option (AA × AB)
 loop : Gd → FuncId → Code → Fr → AB → Option (BL × Fr × AB)
 round : Gd → AB → Nat → List AA → Option (AA × AB)
section
variable (C : EP) (S : Self)
def Aw (g : Gd) (h : AB) (fr : Fr) (op : Op) : Option (AA × AB) :=
 match op with
 | .call { callee := .value x, args := as, .. } =>
  match ev fr x with
  | .func (.func f) first cap => S.call g h f (first ++ (as.toList.map (ev fr) ++ cap))
  | .Fw l => S.round g h l (as.toList.map (ev fr))
  | _ => none
 | op => GA C.P C.CM g h fr op
def Bv (ops : Array Oper) (fr : Fr) (o : Oper) : Option Bool :=
 match o.guard with
 | none => some true
 | some (j, want) =>
  match (ops[j]?).bind (·.dst) with
  | none => some false
  | some d =>
   match nth fr d with
   | .bool b => some (b == want)
   | .undef => none
   | _ => some false
def DI (g : Gd) (ops : Array Oper) : List Oper → Fr → AB → Option (Fr × AB)
 | [], fr, h => some (fr, h)
 | o :: rest, fr, h =>
  match Bv ops fr o with
  | some true =>
   match Aw C S g h fr o.op with
   | some (v, h') => DI g ops rest (put fr o.dst v) h'
   | none => none
  | some false => DI g ops rest (put fr o.dst (.tuple [])) h
  | none => none
def FC (tch : List (Nat × Nat)) (U : List Nat) : List Nat := tch.filterMap fun (i, id) => bif U.any (Nat.beq i) then some id else none
def EC (P : Program) (h : AB) (fr : Fr) (i : Nat) (op : Op) (tch : List (Nat × Nat)) : List (Nat × Nat) :=
 match AZ P op with
 | 1 => match CJ fr op with | some id => (i, id) :: tch | none => tch
 | 2 => (i, h.size) :: tch
 | _ => tch
def TX : AA → AA → Bool
 | .ptr (some (a, b)), .ptr (some (c, d)) => Nat.beq a c && Nat.beq b d
 | .int k a, .int k' b => decide (k = k') && decide (a = b)
 | .bool a, .bool b => a == b
 | .str a, .str b => decide (a = b)
 | .Ev 0 [], .Ev 0 [] => true
 | _, _ => false
def Ui (ops : Array Oper) (fr : Fr) (h : AB) (i : Nat) : Bool :=
 match ops[i]? with
 | some o =>
  match Bv ops fr o with
  | some false => true
  | some true =>
   match o.dst, CJ fr o.op with
   | some d, some id =>
    Nat.blt d fr.length && (match h.get id with
     | some ob => (match HB C.P C.CM fr (some ob) o.op with | some v => TX v (nth fr d) | none => false)
     | none => false)
   | _, _ => false
  | none => false
 | none => false
def Ko (ops : Array Oper) (U : List Nat) (fr : Fr) (h : AB) : Bool := U.all fun u => Nat.blt u 10000 || Ui C ops fr h (u - 10000)
def Bt (g : Gd) (ops : Array Oper) : List (Nat × List Nat) → List (Nat × Nat) → Fr → AB → Option (Fr × AB)
 | [], _, fr, h => some (fr, h)
 | (i, U) :: rest, tch, fr, h =>
  match ops[i]? with
  | none => none
  | some o =>
   match Bv ops fr o with
   | some true =>
    match Aw C S ⟨g.floor, FC tch U ++ g.Bg⟩ h fr o.op with
    | some (v, h') => bif Ko C ops U (put fr o.dst v) h' then Bt g ops rest (EC C.P h fr i o.op tch) (put fr o.dst v) h' else none
    | none => none
   | some false => Bt g ops rest tch (put fr o.dst (.tuple [])) h
   | none => none
def I7 (P : Program) (f : FuncId) : Bool :=
 match P.funcs[f]? with
 | some fn => fn.body.isSome && !(fn.name == "runtime.NumGoroutine")
 | none => false
def Aa (f : FuncId) (g : Gd) : Code → Fr → AB → Option (BL × Fr × AB)
 | .skip, fr, h => some (.normal, fr, h)
 | .label _, fr, h => some (.normal, fr, h)
 | .region id ops draw, fr, h =>
  match (bif draw then Bt C S g ops (C.Ib f id) [] fr h else DI C S g ops ops.toList fr h) with
  | some (fr', h') => some (.normal, fr', h')
  | none => none
 | .seq a b, fr, h =>
  match Aa f g a fr h with
  | some (.normal, fr', h') => Aa f g b fr' h'
  | r => r
 | .cond c a b, fr, h =>
  match ev fr c with
  | .bool true => Aa f g a fr h
  | .bool false => Aa f g b fr h
  | _ => none
 | .block id c, fr, h =>
  match Aa f g c fr h with
  | some (.exit i, fr', h') => bif Nat.beq i id then some (.normal, fr', h') else some (.exit i, fr', h')
  | r => r
 | .loop c, fr, h =>
  match Aa f g c fr h with
  | some (.normal, fr', h') => S.loop g f c fr' h'
  | r => r
 | .scope c, fr, h => Aa f g c fr h
 | .exit id, fr, h => some (.exit id, fr, h)
 | .ret, fr, h => some (.ret, fr, h)
 | .rangeFunc x ps a b, fr, h =>
  match ev fr x with
  | .func (.func f') first cap =>
   bif !I7 C.P f' then none else
   match S.call g (h.push (.loop 0 none f fr ps.toList a b)) f' (first ++ ([.Fw h.size] ++ cap)) with
   | some (_, h2) =>
    match h2.get h.size with
    | some (.loop st pend f2 fr2 ps2 a2 b2) =>
     bif Nat.beq st 1 || !g.may h.size then none else
     match pend with
     | none => some (.normal, fr, h2.set h.size (.loop 3 pend f2 fr2 ps2 a2 b2))
     | some .ret => some (.ret, fr, h2.set h.size (.loop 3 pend f2 fr2 ps2 a2 b2))
     | some (.exit i) => some (.exit i, fr, h2.set h.size (.loop 3 pend f2 fr2 ps2 a2 b2))
     | _ => none
    | _ => none
   | none => none
  | _ => none
 | _, _, _ => none
def GZ : List Tmp → List AA → Fr → Fr
 | p :: ps, v :: vs, fr => GZ ps vs (fr.set p v)
 | _, _, fr => fr
def Wu : Option Code → Nat
 | none => 0
 | some _ => 2
def DO (g : Gd) (l : Nat) (j : Option Code) (h : AB) : Option (AA × AB) :=
 match h.get l with
 | some (.loop _ _ f fr ps a b) => bif g.may l then some (.bool j.isNone, h.set l (.loop (Wu j) j f fr ps a b)) else none
 | _ => none
def GS (g : Gd) (h : AB) (l : Nat) (args : List AA) : Option (AA × AB) :=
 match h.get l with
 | some (.loop 0 _ f fr ps a b) =>
  bif Nat.beq args.length ps.length && (g.may l && C.Rs f a b) then
   match Aa C S f g a (GZ ps args fr) h with
   | some (.normal, fr1, h1) =>
    match h1.get l with
    | some (.loop 0 pend f2 fr2 ps2 a2 b2) =>
     match Aa C S f g b fr1 (h1.set l (.loop 1 pend f2 fr2 ps2 a2 b2)) with
     | some (.normal, _, h3) => DO g l none h3
     | some (.ret, _, h3) => DO g l (some .ret) h3
     | some (.exit i, _, h3) => DO g l (some (.exit i)) h3
     | none => none
    | _ => none
   | _ => none
  else none
 | _ => none
def R9 (P : Program) (g : Gd) (h : AB) (fr : Fr) : Op → Option (AA × AB)
 | .select cases blocking =>
  match cases.toList, blocking with
  | [c], false =>
   match Ec P c.elem with
   | some z =>
    match ev fr c.chan with
    | .chan (some id) =>
     match h.get id with
     | some (.chan cap buf) =>
      match c.send with
      | some x =>
       bif Nat.ble cap buf.length then some (.tuple [.int .i64 (-1), .bool false], h)
       else bif g.may id then some (.tuple [.int .i64 0, .bool false], h.set id (.chan cap (buf ++ [ev fr x])))
       else none
      | none =>
       match buf with
       | v :: rest => bif g.may id then some (.tuple [.int .i64 0, .bool true, v], h.set id (.chan cap rest)) else none
       | [] => some (.tuple [.int .i64 (-1), .bool false, z], h)
     | _ => none
    | _ => none
   | none => none
  | _, _ => none
 | _ => none
def HS : Code → Bool
 | .region _ ops draw => !draw && (match ops[0]? with | some o => (match o.op with | .select _ _ => o.guard.isNone | _ => false) | none => false)
 | _ => false
def GP (g : Gd) : Code → Fr → AB → Option (BL × Fr × AB)
 | .region _ ops _, fr, h =>
  match ops.toList with
  | o :: rest =>
   match R9 C.P g h fr o.op with
   | some (v, h') =>
    match DI C S g ops rest (put fr o.dst v) h' with
    | some (fr', h') => some (.normal, fr', h')
    | none => none
   | none => none
  | [] => none
 | _, _, _ => none
def GJ (f : FuncId) (g : Gd) : Code → Fr → AB → Option (BL × Fr × AB)
 | .seq a b, fr, h =>
  match GJ f g a fr h with
  | some (.normal, fr', h') => GJ f g b fr' h'
  | r => r
 | c, fr, h => bif HS c then GP C S g c fr h else Aa C S f g c fr h
def Im (f : FuncId) (q : ON) (ks rs : List Nat) (it : Nat) (tI te : Tmp) (rest : List Oper) (hh : AB) (ob : N0) (σ : Fr × List AA) (p : AA × AA) : Option (Bool × Fr × List AA) :=
 match DI C S (Rq hh.size ob) q.Of rest (σ.1.set te (.tuple [p.1, p.2])) (DM hh ob σ.2) with
 | some (fr2, h2) =>
  match Aa C S f (Rq hh.size ob) q.body fr2 h2 with
  | some (.normal, fr, h) => bif J8 it (nth fr tI) then QH ks hh.size ob fr h false else none
  | some (.exit i, fr, h) => bif Nat.beq i q.b2 && J8 it (nth fr tI) then QH ks hh.size ob fr h false else none
  | some (.ret, fr, h) => QH rs hh.size ob fr h true
  | none => none
 | none => none
def Oe (rnd : Fr × List AA → AA × AA → Option (Bool × Fr × List AA)) (es : List (AA × AA)) (σ : Fr × List AA) (hh : AB) (ob : N0) : Option (BL × Fr × AB) :=
 match C9 rnd es σ with
 | some (r, fr, cs) => bif C.dec.1 (∀ es', es'.Perm es → C9 rnd es' σ = some (r, fr, cs)) then some (bif r then .ret else .normal, fr, DM hh ob cs) else none
 | none => none
def N6 (f : FuncId) (q : ON) (g : Gd) (ks rs : List Nat) (ot : Option Tmp) (orng : Oper) (fr1 : Fr) (h1 : AB) : Option (BL × Fr × AB) :=
 match orng.op, orng.dst, orng.guard with
 | .range tM x, some tI, none =>
  match ev fr1 x, C.P.underlying tM, Sr q.o9 tI q.tb, TL q.Of tI with
  | .map (some id), some (.map _ _), some tn, some (te, rest) =>
   match h1.get id, TM h1 fr1 ot with
   | some (.map 2 es), some (ob, cs0) =>
    bif g.may id && Sz g ob && (DS ks 0 (fr1.set tI (.ptr (some (h1.size, 0))))).all (Lj (h1.size + 1)) && J8 h1.size (nth (DS ks 0 (fr1.set tI (.ptr (some (h1.size, 0))))) tI) && M5 ks fr1.length tn q.tb && cs0.all Km then
     Oe C (Im C S f q ks rs h1.size tI te rest ((h1.set id (.map 0 [])).push (.cells none 0 [])) ob) es (DS ks 0 (fr1.set tI (.ptr (some (h1.size, 0)))), cs0) ((h1.set id (.map 0 [])).push (.cells none 0 [])) ob
    else none
   | _, _ => none
  | _, _, _, _ => none
 | _, _, _ => none
def Kl (f : FuncId) (q : ON) (g : Gd) (fr : Fr) (h : AB) : Option (BL × Fr × AB) :=
 match C.V5 f q.b, q.o8.toList.getLast?, DI C S g q.o8 q.o8.toList.dropLast fr h with
 | some (ks, rs, ot), some orng, some (fr1, h1) => N6 C S f q g ks rs ot orng fr1 h1
 | _, _, _ => none
def GF (f : FuncId) (g : Gd) : Code → Fr → AB → Option (BL × Fr × AB)
 | .seq a b, fr, h =>
  match RN (.seq a b) with
  | some q => Kl C S f q g fr h
  | none =>
   match GF f g a fr h with
   | some (.normal, fr', h') => GF f g b fr' h'
   | r => r
 | c, fr, h => Aa C S f g c fr h
def Et (P : Program) (fr : Fr) (h : AB) : ResultVar → Option AA
 | .tmp t => some (nth fr t)
 | .cell a t =>
  match nth fr a with
  | .ptr (some (id, o)) => Ek P (h.get id) t o
  | _ => none
def DK (P : Program) (fn : Func) (fr : Fr) (h : AB) : Option AA :=
 match fn.results.toList.mapM (Et P fr h) with
 | some [v] => some v
 | some vs => some (.tuple vs)
 | none => none
def DW : AA → Bool
 | .bool _ | .int _ _ | .str _ | .ptr none | .slice none _ | .map none | .chan none | .nilFunc | .nilIface => true
 | _ => false
def Fk : AA → Bool
 | .agg cs => cs.all DW
 | v => DW v
def JS : AA → Bool
 | .tuple vs => vs.all Fk
 | v => Fk v
def Fc (g : Gd) (h : AB) (f : FuncId) (args : List AA) : Option (AA × AB) :=
 match C.P.funcs[f]? with
 | none => none
 | some fn =>
  match fn.body with
  | none => none
  | some c =>
   match Aa C S f g c (args ++ List.replicate (fn.ntmps - args.length) (.tuple [])) h with
   | some (.normal, fr, h') => (DK C.P fn fr h').map (·, h')
   | some (.ret, fr, h') => (DK C.P fn fr h').map (·, h')
   | _ => none
def MW (g : Gd) (h : AB) (f : FuncId) (args : List AA) : Option (AA × AB) :=
 match C.P.funcs[f]? with
 | none => none
 | some fn =>
  match fn.body with
  | none => none
  | some c =>
   match GJ C S f g c (args ++ List.replicate (fn.ntmps - args.length) (.tuple [])) h with
   | some (.normal, fr, h') => (DK C.P fn fr h').map (·, h')
   | some (.ret, fr, h') => (DK C.P fn fr h').map (·, h')
   | _ => none
def MZ (g : Gd) (h : AB) (f : FuncId) (args : List AA) : Option (AA × AB) :=
 match C.P.funcs[f]? with
 | none => none
 | some fn =>
  match fn.body with
  | none => none
  | some c =>
   match GF C S f g c (args ++ List.replicate (fn.ntmps - args.length) (.tuple [])) h with
   | some (.normal, fr, h') => (DK C.P fn fr h').map (·, h')
   | some (.ret, fr, h') => (DK C.P fn fr h').map (·, h')
   | _ => none
def JC (f : AB → AA → Option (AA × AB)) : List AA → AB → Option (List AA × AB)
 | [], h => some ([], h)
 | v :: vs, h =>
  match f h v with
  | some (v', h1) => (JC f vs h1).map fun r => (v' :: r.1, r.2)
  | none => none
def Ju (g : Gd) (h : AB) : AA → Option (AA × AB)
 | .agg cs => (JC (Fm g) cs h).map fun r => (.agg r.1, r.2)
 | v => Fm g h v
def Kr (g : Gd) (h : AB) : AA → Option (AA × AB)
 | .tuple vs => (JC (Ju g) vs h).map fun r => (.tuple r.1, r.2)
 | v => Ju g h v
def Tu (g : Gd) (h : AB) : AA → Option (AA × AB)
 | .ptr (some (id, 0)) =>
  match h.get id with
  | some (.cells none 2 cs) => bif g.may id then (JC (Fm g) cs (h.set id (.cells none 0 cs))).map fun r => (.DF r.1, r.2) else none
  | _ => none
 | v => Ju g h v
def Vv (g : Gd) (h : AB) : AA → Option (AA × AB)
 | .tuple vs => (JC (Tu g) vs h).map fun r => (.tuple r.1, r.2)
 | v => Tu g h v
def Sp : AA → AA
 | .agg cs => .agg (cs.map Dl)
 | v => Dl v
def B3 : List Bool → List AA → List AA
 | true :: bs, v :: vs => Sp v :: B3 bs vs
 | false :: bs, v :: vs => v :: B3 bs vs
 | _, vs => vs
def HK (g : Gd) (h : AB) (f : FuncId) (args : List AA) : Option (AA × AB) :=
 match C.kind f with
 | 1 => Fc C S g h f (B3 (C.still f) args)
 | 2 =>
  match Fc C S ⟨h.size, []⟩ h f args with
  | some (v, _) => bif JS v then some (v, h) else none
  | none => none
 | 3 => C.ext f g h args
 | 4 =>
  bif args.all Fk then
   match Fc C S ⟨0, []⟩ ⟨0, .leaf⟩ f args with
   | some (v, _) => bif JS v then some (v, h) else none
   | none => none
  else none
 | 7 =>
  match Fc C S g h f (B3 (C.still f) args) with
  | some (v, h') => Kr g h' v
  | none => none
 | 8 => MW C S g h f (B3 (C.still f) args)
 | 9 =>
  match Fc C S g h f (B3 (C.still f) args) with
  | some (v, h') => Vv g h' v
  | none => none
 | 10 => MZ C S g h f (B3 (C.still f) args)
 | 11 =>
  match JC (Ju g) args h with
  | some (args', h1) => Fc C S g h1 f args'
  | none => none
 | _ => none
end
def Ca (C : EP) : Nat → Self
 | 0 => ⟨fun _ _ _ _ => none, fun _ _ _ _ _ => none, fun _ _ _ _ => none⟩
 | n + 1 => ⟨HK C (Ca C n), fun g f c => Aa C (Ca C n) f g (.loop c), GS C (Ca C n)⟩
def Wx (C : EP) (n : Nat) (g : Gd) (h : AB) (f : FuncId) (args : List AA) : Option (AA × AB) := (Ca C n).call g h f args
end Go.Av
