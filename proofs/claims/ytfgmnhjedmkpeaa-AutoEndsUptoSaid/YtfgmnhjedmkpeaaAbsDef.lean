/-
 A part.
-/
import Derived.Calls
set_option linter.unusedSimpArgs false
namespace Go.Abs
set_option linter.defProp false
def qV:=@Option.some.injEq
def qW:=@Option.bind_some
def qX:=@Option.some.inj
def qY:=@Prod.mk.injEq
def qZ:=@Option.map_some
def xa:=@Option.map_eq_some_iff
def xb:=@List.getD_eq_getElem?_getD
def xc:=@Array.getD_eq_getD_getElem?
def xd:=@List.mem_of_getElem?
def xe:=@Nat.le_refl
def xf:=@Bool.and_eq_true
def xg:=@if_neg
def xh:=@List.eq_of_mem_replicate
def xi:=@Nat.lt_of_lt_of_le
def xj:=@if_pos
def xk:=@List.all_eq_true
def xl:=@List.eq_nil_of_length_eq_zero
def xm:=@Int.toNat_natCast
def xn:=@Bool.not_eq_true'
def xo:=@Bool.false_eq_true
def xp:=@Nat.lt_or_ge
def xq:=@Nat.le_trans
def xr:=@Nat.add_mul
def xu:=@Nat.zero_le
def xv:=@Option.getD_some
def xw:=@Array.length_toList
def xx:=@List.length_cons
def xy:=@decide_eq_false_iff_not
def xz:=@List.length_map
def xA:=@Nat.add_assoc
def xB:=@cond_true
def xC:=@Nat.eq_of_beq_eq_true
def xD:=@List.mem_cons_of_mem
def xE:=@Nat.eq_zero_or_pos
def xF:=@List.set_eq_take_append_cons_drop
def xG:=@List.take_of_length_le
def xH:=@List.length_range
def xI:=@Bool.and_eq_false_iff
def xJ:=@cond_false
def xK:=@Nat.le_max_right
def xL:=@Bool.or_eq_false_iff
def xM:=@Nat.le_max_left
def xN:=@List.map_congr_left
def xO:=@beq_iff_eq
def xP:=@List.mem_range
def xQ:=@Nat.lt_or_gt_of_ne
def xR:=@List.drop_eq_getElem_cons
def xS:=@List.cons_append
def xT:=@Array.toList_map
def xU:=@List.ext_getElem
def xV:=@Nat.zero_add
def xW:=@List.nil_append
def xX:=@Bool.or_eq_true
def xY:=@List.mem_filter
def xZ:=@List.mem_iff_getElem?
def wa:=@List.all_cons
def wb:=@List.mem_cons
def wd:=@List.length_append
def we:=@Bool.not_eq_false'
def wh:=@List.append_assoc
def wi:=@List.mem_map
def wj:=@List.flatMap_cons
def wm:=@List.any_eq_true
def wn:=@List.forIn_cons
def wo:=@List.mem_append
def wq:=@List.length_nil
def wt:=@List.drop_length_add_append
def wu:=@List.take_length_add_append
def wv:=@Nat.blt_eq
def ww:=@Array.toList_setIfInBounds
def wx:=@List.drop_drop
def wz:=@List.drop_zero
def wA:=@Nat.beq_refl
def wB:=@Nat.add_zero
def wC:=@List.drop_eq_nil_of_le
def wD:=@List.map_set
inductive AA where
 |undef
 |bool (b:Bool)
 |int (k:IntKind) (n:Int)
 |str (s:List UInt8)
 |ptr (r:Option (Nat×Nat))
 |EJ (g o:Nat)
 |slice (r:Option (Nat×Nat)) (len:Nat)
 |map (r:Option Nat)
 |chan (r:Option Nat)
 |func (fn:Fn) (first captured:List AA)
 |nilFunc
 |iface (t:TypeId) (v:AA)
 |nilIface
 |agg (cs:List AA)
 |tuple (vs:List AA)
 deriving Inhabited
inductive Ay where
 |cells (grow:Option TypeId) (st:Nat) (cs:List AA)
 |map (st:Nat) (es:List (AA×AA))
 |iter (s:List UInt8) (pos:Nat)
 deriving Inhabited
inductive Tr(α:Type) where
 |leaf
 |node (l:Tr α) (v:Option α) (r:Tr α)
def Tr.get{α:Type}:Tr α->Nat->Option α
 | .leaf,_=>none
 | .node l v r,i=>bif Nat.beq i 0 then v else bif Nat.beq (i%2) 1 then l.get (i / 2)else r.get (i / 2 - 1)
def Tr.set{α:Type}:Nat->Tr α->Nat->α->Tr α
 |0,t,_,_=>t
 |f+1,.leaf,i,x=>bif Nat.beq i 0 then .node .leaf (some x) .leaf else bif Nat.beq (i%2) 1 then .node (Tr.set f .leaf (i / 2) x) none .leaf else .node .leaf none (Tr.set f .leaf (i / 2 - 1) x)
 |f+1,.node l v r,i,x=>bif Nat.beq i 0 then .node l (some x) r else bif Nat.beq (i%2) 1 then .node (Tr.set f l (i / 2) x) v r else .node l v (Tr.set f r (i / 2 - 1) x)
structure AB where
 size:Nat
 tr:Tr Ay
def AB.get(h:AB)(i:Nat):Option Ay:=bif Nat.blt i h.size then h.tr.get i else none
def AB.set(h:AB)(i:Nat)(o:Ay):AB:=⟨h.size,Tr.set (i+1) h.tr i o⟩
def AB.push(h:AB)(o:Ay):AB:=⟨h.size+1,Tr.set (h.size+1) h.tr h.size o⟩
structure Gd where
 floor:Nat
 B4:List Nat
def Gd.may(g:Gd)(id:Nat):Bool:=Nat.ble g.floor id&& !(g.B4.any (Nat.beq id))
abbrev Fr:=List AA
def nth:List AA->Nat->AA
 |[],_=>.tuple []
 |a::_,0=>a
 |_::l,i+1=>nth l i
def put(fr:Fr)(dst:Option Tmp)(v:AA):Fr:=
 match dst with
 |some d=>fr.set d v
 |none=>fr
def AA.one:AA->Bool
 | .undef| .agg _| .tuple _=>false
 |_=>true
def AA.cells?:AA->Option (List AA)
 | .undef| .tuple _=>none
 | .agg cs=>some cs
 |v=>some [v]
def HI:Value->AA
 | .bool b=>.bool b
 | .int k n=>.int k n
 | .string s=>.str s.data.toList
 | .pointer none=>.ptr none
 | .slice none 0 0=>.slice none 0
 | .map none=>.map none
 | .chan none=>.chan none
 | .nilFunc=>.nilFunc
 | .nilIface=>.nilIface
 |_=>.undef
def NC:Value->AA
 | .agg cs=>.agg (cs.toList.map HI)
 | .tuple vs=>.tuple (vs.toList.map HI)
 |v=>HI v
def ev(fr:Fr):Operand->AA
 | .tmp t=>nth fr t
 | .const v=>NC v
 | .global g=>.EJ g 0
 | .func f=>.func (.func f) [] []
def CN(cs:List AA)(o:Nat)(new:List AA):List AA:=cs.take o++(new++cs.drop (o+new.length))
section
variable (P:Program)
def BK(t:TypeId):Option Nat:=(P.info? t).map (·.size)
def Er(t:TypeId):Option Bool:=
 match P.underlying t with
 |some (.struct _)|some (.array _ _)=>some true
 |some _=>some false
 |none=>none
def BQ(ob:Option Ay)(o n:Nat):Option (List AA):=
 match ob with
 |some (.cells _ st cs)=>if st≠0/\o+n<=cs.length then some ((cs.drop o).take n)else none
 |_=>none
def DT(ob:Option Ay)(t:TypeId)(o:Nat):Option AA:=
 match Er P t with
 |some true=>(BK P t).bind λn=>(BQ ob o n).map .agg
 |some false=>
  match BQ ob o 1 with
  |some [v]=>some v
  |_=>none
 |none=>none
def BN(g:Gd)(h:AB)(id o:Nat)(new:List AA):Option AB:=
 match h.get id with
 |some (.cells gr 2 cs)=>if g.may id=true/\o+new.length<=cs.length/\new.all AA.one=true then some (h.set id (.cells gr 2 (CN cs o new)))else none
 |_=>none
def FL(g:Gd)(h:AB)(t:TypeId)(id o:Nat)(v:AA):Option AB:=
 match v.cells?,BK P t with
 |some new,some n=>if new.length=n then BN g h id o new else none
 |_,_=>none
abbrev Mc:=(Nat->AA)×Ay
def Ez(v:AA):Option Mc:=
 match v.cells? with
 |some cs=>if cs.all AA.one=true then some (λn=>.ptr (some (n,0)),.cells none 2 cs)else none
 |none=>none
def Ew(t:TypeId):Option AA:=
 match P.info? t with
 |some i=>i.zero.map NC
 |none=>none
def Fe(place:Nat->Option (Nat×Nat))(cells:List AA):List (Nat×AA)->Option (List AA)
 |[]=>some cells
 |(i,v)::rest=>
  match place i,v.cells? with
  |some (off,size),some new=>if new.length=size/\off+size<=cells.length then Fe place (CN cells off new) rest else none
  |_,_=>none
def Jl(fs:List Field):Option (List (Nat×Nat)):=fs.mapM λf=>(P.info? f.type).map λi=>(f.offset,i.size)
def JX(t:TypeId)(parts:List (Nat×AA)):Option AA:=
 match P.underlying t,(Ew P t).bind AA.cells? with
 |some (.array _ e),some z=>(BK P e).bind λn=>(Fe (λi=>some (i*n,n)) z parts).map .agg
 |some (.struct fs),some z=>(Jl P fs.toList).bind λps=>(Fe (ps[·]?) z parts).map .agg
 |_,_=>none
def CK(z:List AA):Nat->List AA
 |0=>[]
 |n+1=>z++CK z n
def FE(t:TypeId)(len:Nat)(parts:List (Nat×AA)):Option Mc:=
 match P.underlying t with
 | some (.slice e)=>
  match BK P e,(Ew P e).bind AA.cells? with
  | some n,some z=>
   if len*n<=16777216/\z.length=n/\n≠0 then
    match Fe (λi=>some (i*n,n)) (CK z len) parts with
    |some cs=>if cs.all AA.one=true then some (λn=>.slice (some (n,0)) len,.cells (some e) 2 cs)else none
    |none=>none
   else none
  |_,_=>none
 |_=>none
def GS(op:BinOp)(k:IntKind)(a b:Int):Option AA:=
 match op with
 | .add=>some (.int k (k.wrap (a+b)))
 | .sub=>some (.int k (k.wrap (a - b)))
 | .mul=>some (.int k (k.wrap (a*b)))
 | .quo=>if b=0 then none else some (.int k (k.wrap (a.tdiv b)))
 | .rem=>if b=0 then none else some (.int k (a.tmod b))
 | .and=>some (.int k (k.wrap (BitVec.ofInt k.bits a &&& BitVec.ofInt k.bits b).toNat))
 | .or=>some (.int k (k.wrap (BitVec.ofInt k.bits a ||| BitVec.ofInt k.bits b).toNat))
 | .xor=>some (.int k (k.wrap (BitVec.ofInt k.bits a ^^^ BitVec.ofInt k.bits b).toNat))
 | .andNot=>some (.int k (k.wrap (BitVec.ofInt k.bits a &&& ~~~BitVec.ofInt k.bits b).toNat))
 | .eql=>some (.bool (a==b))
 | .neq=>some (.bool (a !=b))
 | .lss=>some (.bool (decide (a<b)))
 | .leq=>some (.bool (decide (a<=b)))
 | .gtr=>some (.bool (decide (a>b)))
 | .geq=>some (.bool (decide (a>=b)))
 |_=>none
def Hj(op:BinOp)(k:IntKind)(a b:Int):Option AA:=
 if b<0 then none else
 match op with
 | .shl=>some (.int k (k.wrap (a*2^(min b.toNat k.bits))))
 | .shr=>some (.int k (a.fdiv (2^(min b.toNat k.bits))))
 |_=>none
def LA(op:BinOp)(a b:List UInt8):Option AA:=
 match op with
 | .add=>if a.length+b.length<=9223372036854775807 then some (.str (a++b))else none
 | .eql=>some (.bool (a==b))
 | .neq=>some (.bool !(a==b))
 | .lss=>some (.bool (Op.bytesLess a b))
 | .leq=>some (.bool (Op.bytesLess a b||a==b))
 | .gtr=>some (.bool !(Op.bytesLess a b||a==b))
 | .geq=>some (.bool !(Op.bytesLess a b))
 |_=>none
def Dw(t:TypeId)(cs:List AA)(off:Nat):Option AA:=
 match Er P t with
 |some true=>(BK P t).bind λn=>if off+n<=cs.length then some (.agg ((cs.drop off).take n))else none
 |some false=>cs[off]?
 |none=>none
def eqFields(eq:TypeId->AA->AA->Option Bool)(xs ys:List AA):List Field->Option Bool
 |[]=>some true
 | f::fs=>
  if f.name="_" then eqFields eq xs ys fs else
  match Dw P f.type xs f.offset,Dw P f.type ys f.offset with
  |some a,some b=>
   match eq f.type a b with
   |some true=>eqFields eq xs ys fs
   |some false=>some false
   |none=>none
  |_,_=>none
def GB(eq:TypeId->AA->AA->Option Bool)(e:TypeId)(z:Nat)(xs ys:List AA):Nat->Nat->Option Bool
 |0,_=>some true
 | n+1,i=>
  match Dw P e xs (i*z),Dw P e ys (i*z)with
  |some a,some b=>
   match eq e a b with
   |some true=>GB eq e z xs ys n (i+1)
   |some false=>some false
   |none=>none
  |_,_=>none
def GZ:Nat->TypeId->AA->AA->Option Bool
 |0,_,_,_=>none
 |d+1,t,x,y=>
  match P.underlying t,x,y with
  |some .bool,.bool a,.bool b=>some (a==b)
  |some (.int _),.int k a,.int k' b=>if k=k' then some (a==b)else none
  |some .string,.str a,.str b=>some (a==b)
  |some (.pointer _),.ptr none,.ptr b=>some b.isNone
  |some (.pointer _),.ptr (some _),.ptr none=>some false
  |some (.slice _),.slice none _,.slice b _=>some b.isNone
  |some (.slice _),.slice (some _) _,.slice none _=>some false
  |some (.map _ _),.map none,.map b=>some b.isNone
  |some (.map _ _),.map (some _),.map none=>some false
  |some (.func _ _ _),.nilFunc,.nilFunc=>some true
  |some (.func _ _ _),.nilFunc,.func _ _ _=>some false
  |some (.func _ _ _),.func _ _ _,.nilFunc=>some false
  |some (.struct fs),.agg xs,.agg ys=>if P.stoodInHeld t=true then none else eqFields P (GZ d) xs ys fs.toList
  |some (.array n e),.agg xs,.agg ys=>(BK P e).bind λz=>GB P (GZ d) e z xs ys n 0
  |_,_,_=>none
def Kw:AA->Bool
 | .bool _| .ptr _| .slice _ _| .map _| .nilFunc| .func _ _ _=>true
 |_=>false
def L6(op:BinOp)(t:TypeId)(x y:AA):Option AA:=
 match x,y with
 | .int k a,.int k' b=>
  match op with
  | .shl| .shr=>Hj op k a b
  |_=>if k=k' then GS op k a b else none
 | .str a,.str b=>LA op a b
 | .agg xs,.agg ys=>
  if P.eqGuardType P.depth t=true then none else
  match op with
  | .eql=>(GZ P 10000 t (.agg xs) (.agg ys)).map .bool
  | .neq=>(GZ P 10000 t (.agg xs) (.agg ys)).map λb=>.bool !b
  |_=>none
 | x,y=>
  if Kw x=true then
   match op with
   | .eql=>(GZ P 10000 t x y).map .bool
   | .neq=>(GZ P 10000 t x y).map λb=>.bool !b
   |_=>none
  else none
def T6(op:UnOp)(x:AA):Option AA:=
 match op,x with
 | .neg,.int k n=>GS .sub k 0 n
 | .xor,.int k n=>GS .xor k (if k.signed then -1 else k.max) n
 | .not,.bool b=>some (.bool !b)
 |_,_=>none
def bytesOf:List AA->Option (List UInt8)
 |[]=>some []
 | .int .u8 n::r=>(bytesOf r).map (UInt8.ofNat n.toNat::·)
 |_=>none
def LX(src dst:TypeId)(x:AA):Option AA:=
 match P.underlying src,P.underlying dst,x with
 |some _,some (.int k),.int _ n=>some (.int k (k.wrap n))
 |some _,some .string,.str s=>some (.str s)
 |some _,some .string,.int _ n=>some (.str (Utf8.encode n).data.toList)
 |_,_,_=>none
def MU(src dst:TypeId)(x:AA):Option Mc:=
 match P.underlying src,P.underlying dst,x with
 |some _,some (.slice e),.str s=>
  match P.underlying e,BK P e with
  |some (.int .u8),some 1=>if s.length<=1099511627776 then some (λn=>.slice (some (n,0)) s.length,.cells (some e) 2 (s.map λb=>.int .u8 b.toNat))else none
  |_,_=>none
 |_,_,_=>none
def KM(ob:Option Ay)(src dst:TypeId)(x:AA):Option AA:=
 match P.underlying src,P.underlying dst,x with
 | some (.slice e),some .string,.slice r n=>
  match P.underlying e with
  |some (.int .u8)=>
   match r with
   |none=>some (.str [])
   |some (_,o)=>if n=0 then some (.str [])else(BQ ob o n).bind λcs=>(bytesOf cs).map .str
  |_=>none
 |_,_,_=>none
def Et(t:TypeId)(l c:AA):Option Mc:=
 match P.underlying t,l,c with
 | some (.slice e),.int _ l,.int _ c=>
  match P.info? e with
  | some i=>
   match i.zero.map NC with
   | some z=>
    match z.cells? with
    | some zc=>
     if 0<=l/\l<=c/\c<=1099511627776/\i.bytes*c<=1099511627776/\zc.length=i.size/\zc.all AA.one=true then
      some (λn=>.slice (some (n,0)) l.toNat,.cells (some e) 2 (CK zc c.toNat))
     else none
    |none=>none
   |none=>none
  |none=>none
 |_,_,_=>none
def CD(n:Nat)(lo B:Option AA):Option (Nat×Nat):=
 match B with
 | some (.int _ u)=>
  if 0<=u/\u<=n then
   match lo with
   |some (.int _ l)=>if 0<=l/\l<=u then some (l.toNat,u.toNat)else none
   |some _=>none
   |none=>some (0,u.toNat)
  else none
 |some _=>none
 |none=>
  match lo with
  |some (.int _ l)=>if 0<=l/\l<=n then some (l.toNat,n)else none
  |some _=>none
  |none=>some (0,n)
def Jo(t:TypeId)(x:AA)(lo B:Option AA):Option AA:=
 match P.underlying t,x with
 |some .string,.str s=>(CD s.length lo B).map λ(l,u)=>.str ((s.drop l).take (u - l))
 |_,_=>none
def I7(ob:Option Ay)(t:TypeId)(x:AA)(lo B:Option AA):Option AA:=
 match P.underlying t,x with
 |some (.array n e),.ptr (some (id,o))=>
  match ob with
  |some (.cells none _ _)=>(BK P e).bind λz=>(CD n lo B).map λ(l,u)=>.slice (some (id,o+l*z)) (u - l)
  |_=>none
 |some (.slice e),.slice none 0=>(BK P e).bind λ_=>(CD 0 lo B).map λ_=>.slice none 0
 |some (.slice e),.slice (some (id,o)) n=>
  match ob,BK P e with
  |some (.cells none _ _),some z=>(CD n lo B).map λ(l,u)=>.slice (some (id,o+l*z)) (u - l)
  |some (.cells (some e') _ _),some z=>if BK P e'=some z then(CD n lo B).map λ(l,u)=>.slice (some (id,o+l*z)) (u - l)else none
  |_,_=>none
 |_,_=>none
def FK(s:TypeId)(x:AA)(f:Nat):Option AA:=
 match P.underlying s,x with
 | some (.struct fs),.ptr (some (id,o))=>
  match fs[f]? with
  |some fd=>
   match BK P fd.type with
   |some 0=>none
   |some _=>some (.ptr (some (id,o+fd.offset)))
   |none=>none
  |none=>none
 | some (.struct fs),.EJ g o=>
  match fs[f]? with
  |some fd=>
   match BK P fd.type with
   |some 0=>none
   |some _=>some (.EJ g (o+fd.offset))
   |none=>none
  |none=>none
 |_,_=>none
def Jp(s:TypeId)(x:AA)(f:Nat):Option AA:=
 match P.underlying s,x with
 |some (.struct fs),.agg cs=>
  match fs[f]? with
  |some fd=>Dw P fd.type cs fd.offset
  |none=>none
 |_,_=>none
def DJ(t:TypeId)(x i:AA):Option AA:=
 match P.underlying t,x,i with
 |some (.array n e),.ptr (some (id,o)),.int _ i=>if 0<=i/\i<n then(BK P e).map λz=>.ptr (some (id,o+i.toNat*z))else none
 |some (.slice e),.slice (some (id,o)) n,.int _ i=>if 0<=i/\i<n then(BK P e).map λz=>.ptr (some (id,o+i.toNat*z))else none
 |some (.array n e),.EJ g o,.int _ i=>if 0<=i/\i<n then(BK P e).map λz=>.EJ g (o+i.toNat*z)else none
 |_,_,_=>none
def Hl(t:TypeId)(x i:AA):Option AA:=
 match P.underlying t,x,i with
 |some (.array n e),.agg cs,.int _ i=>if 0<=i/\i<n then(BK P e).bind λz=>Dw P e cs (i.toNat*z)else none
 |some .string,.str s,.int _ i=>if 0<=i then(s[i.toNat]?).map λb=>.int .u8 b.toNat else none
 |_,_,_=>none
def Bv(h:AB)(z n:Nat):AA->Option (List AA)
 | .slice (some (id,o)) _=>if n=0 then some []else BQ (h.get id) o (n*z)
 | .slice none _=>if n=0 then some []else none
 | .str s=>if z=1 then some ((s.take n).map λb=>.int .u8 b.toNat)else none
 |_=>none
def Ib:AA->Option Nat
 | .slice _ n=>some n
 | .str s=>some s.length
 |_=>none
def En:TypeDesc->Bool
 | .int _=>false
 |_=>true
def appendCore(g:Gd)(h:AB)(e:TypeId)(i:TypeInfo)(r:Option (Nat×Nat))(sl n:Nat)(x:AA):Option (AA×AB):=
 if n=0 then some (.slice r sl,h)
 else if i.size≠0/\sl+n<=1099511627776/\(sl+n)*i.bytes<=1099511627776/\i.zero.map (·.cells.size)=some i.size then
  match Bv h i.size n x,Bv h i.size sl (.slice r sl)with
  | some new,some old=>
   if (old++new).all AA.one=true then
    match r with
    |none=>some (.slice (some (h.size,0)) (sl+n),h.push (.cells (some e) 2 (old++new)))
    | some (id,_)=>
     match h.get id with
     |some (.cells (some e') 2 cs)=>
      if g.may id=true/\e'=e then some (.slice (some (h.size,0)) (sl+n),(h.set id (.cells (some e') 0 cs)).push (.cells (some e) 2 (old++new)))
      else none
     |_=>none
   else none
  |_,_=>none
 else none
def GM(g:Gd)(h:AB)(ts:Array TypeId)(s x:AA):Option (AA×AB):=
 match ts[0]?,ts[1]?,s,Ib x with
 | some st,some xt,.slice r sl,some n=>
  match P.underlying st,P.underlying xt with
  |some (.slice e),some d=>
   match P.info? e with
   |some i=>if En d=true then appendCore g h e i r sl n x else none
   |none=>none
  |_,_=>none
 |_,_,_,_=>none
def J3(g:Gd)(h:AB)(ts:Array TypeId)(d x:AA):Option (AA×AB):=
 match ts[0]?,d,Ib x with
 | some dt,.slice r dl,some sl=>
  match P.underlying dt with
  | some (.slice e)=>
   match BK P e with
   |some z=>
    match Bv h z (min sl dl) x,r with
    |some new,some (id,o)=>if min sl dl=0 then some (.int .i64 0,h)else(BN g h id o new).map λh'=>(.int .i64 (min sl dl:Nat),h')
    |some _,none=>if min sl dl=0 then some (.int .i64 0,h)else none
    |none,_=>none
   |none=>none
  |_=>none
 |_,_,_=>none
def M1(ts:Array TypeId)(x:AA):Option AA:=
 match ts[0]? with
 |none=>none
 |some t=>
  match P.underlying t,x with
  |some .string,.str s=>some (.int .i64 s.length)
  |some (.array n _),_=>some (.int .i64 n)
  |some (.slice _),.slice _ n=>some (.int .i64 n)
  |_,_=>none
def O8(ob:Option Ay)(ts:Array TypeId)(x:AA):Option AA:=
 match ts[0]? with
 |none=>none
 | some t=>
  match P.underlying t,x with
  |some (.map _ _),.map none=>some (.int .i64 0)
  |some (.map _ _),.map (some _)=>
   match ob with
   |some (.map st es)=>if st≠0 then some (.int .i64 es.length)else none
   |_=>none
  |_,_=>none
def FU(mx:Bool):AA->List AA->Option AA
 |v,[]=>some v
 | .int k a,.int k' b::r=>if k=k' then FU mx (.int k (if mx then(if b>a then b else a)else(if b<a then b else a))) r else none
 |_,_=>none
def ET(t:TypeId)(k:AA):List (AA×AA)->Nat->Option (Option (Nat×AA))
 |[],_=>some none
 |(k',v)::es,i=>
  match GZ P 10000 t k k' with
  |some true=>some (some (i,v))
  |some false=>ET t k es (i+1)
  |none=>none
def ER:Nat->TypeId->AA->Bool
 |0,_,_=>false
 |d+1,t,v=>
  match P.underlying t,v with
  |some (.int _),.int _ _=>true
  |some .string,.str _=>true
  |some .bool,.bool _=>true
  |some (.struct fs),.agg cs=>fs.toList.all (λf=>f.name !="_"&&(match Dw P f.type cs f.offset with|some x=>ER d f.type x|none=>false))
  |some (.array n e),.agg cs=>(match BK P e with|some z=>(List.range n).all (λi=>match Dw P e cs (i*z)with|some x=>ER d e x|none=>false)|none=>false)
  |_,_=>false
def Il(ob:Option Ay)(t:TypeId)(x k:AA)(ok:Bool):Option AA:=
 match P.underlying t,x with
 | some (.map kt et),.map r=>
  if ER P 20 kt k=true then
   match(match r with|none=>some []|some _=>match ob with|some (.map st es)=>if st≠0 then some es else none|_=>none)with
   |some es=>
    match ET P kt k es 0 with
    |some (some (_,v))=>some (if ok then .tuple [v,.bool true]else v)
    |some none=>(Ew P et).map λz=>if ok then .tuple [z,.bool false]else z
    |none=>none
   |none=>none
  else none
 |_,_=>none
def Ju:AA->AA->Bool
 | .int k a,.int k' b=>decide (k=k')&&a==b
 | .str a,.str b=>a==b
 | .bool a,.bool b=>a==b
 |_,_=>false
def Js:AA->AA->Bool
 | .agg a,.agg b=>a.length==b.length&&(a.zip b).all λp=>Ju p.1 p.2
 |x,y=>Ju x y
def FJ(g:Gd)(h:AB)(t:TypeId)(m k v:AA):Option AB:=
 match P.underlying t,m with
 | some (.map kt _),.map (some id)=>
  if ER P 20 kt k=true/\g.may id=true then
   match h.get id with
   | some (.map 2 es)=>
    match ET P kt k es 0 with
    |some (some (i,_))=>
     match es[i]? with
     |some (k',_)=>if Js k' k=true then some (h.set id (.map 2 (es.set i (k,v))))else none
     |none=>none
    |some none=>some (h.set id (.map 2 (es++[(k,v)])))
    |none=>none
   |_=>none
  else none
 |_,_=>none
def Fj(g:Gd)(h:AB)(ts:Array TypeId)(m k:AA):Option AB:=
 match ts[0]? with
 |none=>none
 | some t=>
  match P.underlying t,m with
  | some (.map kt _),.map (some id)=>
   if ER P 20 kt k=true/\g.may id=true then
    match h.get id with
    |some (.map 2 es)=>
     match ET P kt k es 0 with
     |some (some (i,_))=>some (h.set id (.map 2 (es.eraseIdx i)))
     |some none=>some h
     |none=>none
    |_=>none
   else none
  |_,_=>none
def AX:Op->Nat
 | .move _| .assign _| .pick .. | .build .. | .nilCheck _| .binOp .. | .unOp .. | .makeFunc .. | .fieldAddr .. | .field .. | .indexAddr .. | .index .. | .extract .. =>0
 | .slice t .. =>match P.underlying t with|some .string=>0|_=>1
 | .convert s d _=>
  match P.underlying s,P.underlying d with
  |some (.slice _),some .string=>1
  |_,some (.slice _)=>2
  |_,_=>0
 | .load .. | .lookup .. =>1
 | .alloc _| .box .. | .buildSlice .. | .makeMap .. | .makeSlice .. | .range .. =>2
 | .call {callee:=.builtin .len,argTypes:=ts,..}=>
  match ts[0]? with
  |some t=>match P.underlying t with|some (.map _ _)=>1|_=>0
  |none=>0
 | .call {callee:=.builtin .min,..}| .call {callee:=.builtin .max,..}=>0
 |_=>3
def FA(fr:Fr):Op->Option AA
 | .move x| .assign x=>some (ev fr x)
 | .pick c a b=>
  match ev fr c with
  | .bool b'=>some (bif b' then ev fr a else ev fr b)
  |_=>none
 | .build t parts=>JX P t (parts.toList.map λ(i,x)=>(i,ev fr x))
 | .nilCheck x=>
  match ev fr x with
  | .ptr (some r)=>some (.ptr (some r))
  | .EJ g o=>some (.EJ g o)
  | .func (.func f) a b=>some (.func (.func f) a b)
  |_=>none
 | .binOp op t x y _=>L6 P op t (ev fr x) (ev fr y)
 | .unOp op _ x=>T6 op (ev fr x)
 | .convert s d x=>LX P s d (ev fr x)
 | .makeFunc fn first cap=>some (.func fn (first.toList.map (ev fr)) (cap.toList.map (ev fr)))
 | .slice t x lo B none=>Jo P t (ev fr x) (lo.map (ev fr)) (B.map (ev fr))
 | .fieldAddr s x f=>FK P s (ev fr x) f
 | .field s x f=>Jp P s (ev fr x) f
 | .indexAddr t x i=>DJ P t (ev fr x) (ev fr i)
 | .index t x i=>Hl P t (ev fr x) (ev fr i)
 | .extract x i=>
  match ev fr x with
  | .tuple vs=>vs[i]?
  |_=>none
 | .call {callee:=.builtin b,args:=asE9,argTypes:=ts}=>
  match b,asE9.toList.map (ev fr)with
  | .len,[x]=>M1 P ts x
  | .min,x::r=>FU false x r
  | .max,x::r=>FU true x r
  |_,_=>none
 |_=>none
def CM:AA->Option Nat
 | .ptr (some (id,_))=>some id
 | .slice (some (id,_)) _=>some id
 | .map (some id)=>some id
 |_=>none
def B1(fr:Fr):Op->Option Nat
 | .load _ x=>CM (ev fr x)
 | .slice _ x _ _ _=>CM (ev fr x)
 | .convert _ _ x=>CM (ev fr x)
 | .lookup _ x _ _=>CM (ev fr x)
 | .call {args:=asE9,..}=>
  match asE9.toList with
  |[x]=>CM (ev fr x)
  |_=>none
 |_=>none
def Gh(G:Nat->Option (List AA))(fr:Fr)(ob:Option Ay):Op->Option AA
 | .load t a=>
  match ev fr a with
  | .ptr (some (_,o))=>DT P ob t o
  | .EJ g o=>DT P ((G g).map λcs=>.cells none 1 cs) t o
  |_=>none
 | .slice t x lo B none=>I7 P ob t (ev fr x) (lo.map (ev fr)) (B.map (ev fr))
 | .convert s d x=>KM P ob s d (ev fr x)
 | .lookup t x k ok=>Il P ob t (ev fr x) (ev fr k) ok
 | .call {callee:=.builtin .len,args:=asE9,argTypes:=ts}=>
  match asE9.toList with
  |[x]=>O8 P ob ts (ev fr x)
  |_=>none
 |_=>none
def Ii(fr:Fr):Op->Option Mc
 | .alloc e=>(Ew P e).bind Ez
 | .box _ x=>Ez (ev fr x)
 | .buildSlice t len parts=>FE P t len (parts.toList.map λ(i,x)=>(i,ev fr x))
 | .convert s d x=>MU P s d (ev fr x)
 | .makeMap _ none=>some (λn=>.map (some n),.map 2 [])
 | .makeSlice t l c=>Et P t (ev fr l) (ev fr c)
 | .range t x=>
  match P.underlying t,ev fr x with
  |some .string,.str s=>some (λn=>.ptr (some (n,0)),.iter s 0)
  |_,_=>none
 |_=>none
def GF(g:Gd)(h:AB)(fr:Fr):Op->Option (AA×AB)
 | .store t a x=>
  match ev fr a with
  | .ptr (some (id,o))=>(FL P g h t id o (ev fr x)).map (.tuple [],·)
  |_=>none
 | .mapUpdate t m k v| .insert t m k v=>(FJ P g h t (ev fr m) (ev fr k) (ev fr v)).map (.tuple [],·)
 | .next it true=>
  match ev fr it with
  | .ptr (some (id,0))=>
   match h.get id with
   | some (.iter s pos)=>
    if g.may id=true then
     if pos<s.length then
      some (.tuple [.bool true,.int .i64 pos,.int .i32 (Utf8.decode ⟨⟨s⟩⟩ pos).1],h.set id (.iter s (pos+(Utf8.decode ⟨⟨s⟩⟩ pos).2)))
     else some (.tuple [.bool false],h)
    else none
   |_=>none
  |_=>none
 | .call {callee:=.builtin b,args:=asE9,argTypes:=ts}=>
  match b,asE9.toList.map (ev fr)with
  | .append,[s,x]=>GM P g h ts s x
  | .copy,[d,x]=>J3 P g h ts d x
  | .delete,[m,k]=>(Fj P g h ts m k).map (.tuple [],·)
  |_,_=>none
 |_=>none
def Fp(G:Nat->Option (List AA))(g:Gd)(h:AB)(fr:Fr)(op:Op):Option (AA×AB):=
 match AX P op with
 |0=>(FA P fr op).map (·,h)
 | 1=>
  match B1 fr op with
  |none=>(Gh P G fr none op).map (·,h)
  |some id=>
   match h.get id with
   |some ob=>(Gh P G fr (some ob) op).map (·,h)
   |none=>none
 |2=>(Ii P fr op).map λx=>(x.1 h.size,h.push x.2)
 |_=>GF P g h fr op
end
structure Eu where
 P:Program
 kind:Nat->Nat
 Iy:Nat->Nat->List (Nat×List Nat)
 ext:Nat->Gd->AB->List AA->Option (AA×AB)
 B6:Nat->Option (List AA):=λ_=>none
inductive Br where
 |normal
 |exit (id:Nat)
 |ret
structure Self where
 call:Gd->AB->FuncId->List AA->Option (AA×AB)
 loop:Gd->FuncId->Code->Fr->AB->Option (Br×Fr×AB)
section
variable (C:Eu) (S:Self)
def Ap(g:Gd)(h:AB)(fr:Fr)(op:Op):Option (AA×AB):=
 match op with
 | .call {callee:=.value x,args:=asE9,..}=>
  match ev fr x with
  | .func (.func f) first cap=>S.call g h f (first++(asE9.toList.map (ev fr)++cap))
  |_=>none
 |op=>Fp C.P C.B6 g h fr op
def A6(ops:Array Oper)(fr:Fr)(o:Oper):Option Bool:=
 match o.guard with
 |none=>some true
 | some (j,want)=>
  match(ops[j]?).bind (·.dst)with
  |none=>some false
  |some d=>
   match nth fr d with
   | .bool b=>some (b==want)
   | .undef=>none
   |_=>some false
def Ce(g:Gd)(ops:Array Oper):List Oper->Fr->AB->Option (Fr×AB)
 |[],fr,h=>some (fr,h)
 | o::rest,fr,h=>
  match A6 ops fr o with
  |some true=>
   match Ap C S g h fr o.op with
   |some (v,h')=>Ce g ops rest (put fr o.dst v) h'
   |none=>none
  |some false=>Ce g ops rest (put fr o.dst (.tuple [])) h
  |none=>none
def EA(tch:List (Nat×Nat))(U:List Nat):List Nat:=tch.filterMap λ(i,id)=>bif U.any (Nat.beq i)then some id else none
def C0(P:Program)(h:AB)(fr:Fr)(i:Nat)(op:Op)(tch:List (Nat×Nat)):List (Nat×Nat):=
 match AX P op with
 |1=>match B1 fr op with|some id=>(i,id)::tch|none=>tch
 |2=>(i,h.size)::tch
 |_=>tch
def BA(g:Gd)(ops:Array Oper):List (Nat×List Nat)->List (Nat×Nat)->Fr->AB->Option (Fr×AB)
 |[],_,fr,h=>some (fr,h)
 | (i,U)::rest,tch,fr,h=>
  match ops[i]? with
  |none=>none
  | some o=>
   match A6 ops fr o with
   |some true=>
    match Ap C S ⟨g.floor,EA tch U++g.B4⟩ h fr o.op with
    |some (v,h')=>BA g ops rest (C0 C.P h fr i o.op tch) (put fr o.dst v) h'
    |none=>none
   |some false=>BA g ops rest tch (put fr o.dst (.tuple [])) h
   |none=>none
def Aa(f:FuncId)(g:Gd):Code->Fr->AB->Option (Br×Fr×AB)
 | .skip,fr,h=>some (.normal,fr,h)
 | .label _,fr,h=>some (.normal,fr,h)
 | .region id ops draw,fr,h=>
  match(bif draw then BA C S g ops (C.Iy f id) [] fr h else Ce C S g ops ops.toList fr h)with
  |some (fr',h')=>some (.normal,fr',h')
  |none=>none
 | .seq a b,fr,h=>
  match Aa f g a fr h with
  |some (.normal,fr',h')=>Aa f g b fr' h'
  |r=>r
 | .cond c a b,fr,h=>
  match ev fr c with
  | .bool true=>Aa f g a fr h
  | .bool false=>Aa f g b fr h
  |_=>none
 | .block id c,fr,h=>
  match Aa f g c fr h with
  |some (.exit i,fr',h')=>bif Nat.beq i id then some (.normal,fr',h')else some (.exit i,fr',h')
  |r=>r
 | .loop c,fr,h=>
  match Aa f g c fr h with
  |some (.normal,fr',h')=>S.loop g f c fr' h'
  |r=>r
 | .exit id,fr,h=>some (.exit id,fr,h)
 | .scope c,fr,h=>Aa f g c fr h
 | .ret,fr,h=>some (.ret,fr,h)
 |_,_,_=>none
def Dj(P:Program)(fr:Fr)(h:AB):ResultVar->Option AA
 | .tmp t=>some (nth fr t)
 | .cell a t=>
  match nth fr a with
  | .ptr (some (id,o))=>DT P (h.get id) t o
  |_=>none
def Cy(P:Program)(fn:Func)(fr:Fr)(h:AB):Option AA:=
 match fn.results.toList.mapM (Dj P fr h)with
 |some [v]=>some v
 |some vs=>some (.tuple vs)
 |none=>none
def Ev:AA->Bool
 | .bool _| .int _ _| .str _| .ptr none| .slice none _| .map none| .chan none| .nilFunc| .nilIface=>true
 |_=>false
def D2:AA->Bool
 | .agg cs=>cs.all Ev
 |v=>Ev v
def Fo:AA->Bool
 | .tuple vs=>vs.all D2
 |v=>D2 v
def Dn(g:Gd)(h:AB)(f:FuncId)(args:List AA):Option (AA×AB):=
 match C.P.funcs[f]? with
 |none=>none
 | some fn=>
  match fn.body with
  |none=>none
  |some c=>
   match Aa C S f g c (args++List.replicate (fn.ntmps - args.length) (.tuple [])) h with
   |some (.normal,fr,h')=>(Cy C.P fn fr h').map (·,h')
   |some (.ret,fr,h')=>(Cy C.P fn fr h').map (·,h')
   |_=>none
def Ej(g:Gd)(h:AB)(f:FuncId)(args:List AA):Option (AA×AB):=
 match C.kind f with
 |1=>Dn C S g h f args
 |2=>
  match Dn C S ⟨h.size,[]⟩ h f args with
  |some (v,_)=>bif Fo v then some (v,h)else none
  |none=>none
 |3=>C.ext f g h args
 | 4=>
  bif args.all D2 then
   match Dn C S ⟨0,[]⟩ ⟨0,.leaf⟩ f args with
   |some (v,_)=>bif Fo v then some (v,h)else none
   |none=>none
  else none
 |_=>none
end
def Bm(C:Eu):Nat->Self
 |0=>⟨λ_ _ _ _=>none,λ_ _ _ _ _=>none⟩
 |n+1=>⟨Ej C (Bm C n),λg f c=>Aa C (Bm C n) f g (.loop c)⟩
def TZ(C:Eu)(n:Nat)(g:Gd)(h:AB)(f:FuncId)(args:List AA):Option (AA×AB):=(Bm C n).call g h f args
end Go.Abs
