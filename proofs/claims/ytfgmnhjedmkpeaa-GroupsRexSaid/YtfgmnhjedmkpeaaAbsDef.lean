/-
 A part.
-/
import Derived.Calls
set_option linter.unusedSimpArgs false
namespace Go.Abs
set_option linter.defProp false
def qQ:=@Option.bind_some
def qU:=@Option.some.injEq
def qV:=@Option.some.inj
def qW:=@Prod.mk.injEq
def qX:=@Option.map_eq_some_iff
def qY:=@List.getD_eq_getElem?_getD
def qZ:=@Array.getD_eq_getD_getElem?
def q8:=@Option.map_some
def q9:=@List.mem_of_getElem?
def xa:=@Bool.and_eq_true
def xb:=@Nat.le_refl
def xc:=@List.eq_of_mem_replicate
def xd:=@if_neg
def xe:=@Nat.lt_of_lt_of_le
def xf:=@if_pos
def xg:=@List.all_eq_true
def xh:=@Int.toNat_natCast
def xi:=@List.eq_nil_of_length_eq_zero
def xj:=@Bool.not_eq_true'
def xk:=@Nat.lt_or_ge
def xl:=@Nat.zero_le
def xm:=@Option.getD_some
def xn:=@Nat.le_trans
def xo:=@List.length_cons
def xp:=@decide_eq_false_iff_not
def xq:=@List.length_map
def xr:=@cond_true
def xu:=@Nat.eq_of_beq_eq_true
def xv:=@List.mem_cons_of_mem
def xw:=@Bool.false_eq_true
def xx:=@Nat.eq_zero_or_pos
def xy:=@List.set_eq_take_append_cons_drop
def xz:=@List.length_range
def xA:=@Bool.and_eq_false_iff
def xB:=@cond_false
def xC:=@Nat.le_max_right
def xD:=@Bool.or_eq_false_iff
def xE:=@Nat.le_max_left
def xF:=@List.map_congr_left
def xG:=@List.mem_range
def xH:=@Nat.lt_or_gt_of_ne
def xI:=@List.drop_eq_getElem_cons
def xJ:=@Nat.add_mul
def xK:=@Nat.add_assoc
def xL:=@List.cons_append
def xM:=@List.ext_getElem
def xN:=@Nat.zero_add
def xO:=@List.take_of_length_le
def xP:=@List.nil_append
def xQ:=@Bool.or_eq_true
def xR:=@List.mem_filter
def xS:=@List.mem_cons
def xT:=@Bool.not_eq_false'
def xU:=@List.append_assoc
def xV:=@List.flatMap_cons
def xW:=@Array.toList_map
def xX:=@List.any_eq_true
def xY:=@List.length_nil
def xZ:=@List.drop_length_add_append
def wa:=@List.take_length_add_append
def wb:=@Nat.blt_eq
def wd:=@Array.toList_setIfInBounds
def we:=@List.drop_drop
def wf:=@List.drop_zero
def wg:=@Nat.beq_refl
def wh:=@List.mem_map
def wi:=@List.drop_eq_nil_of_le
def wj:=@List.map_set
def wm:=@List.mem_iff_getElem?
inductive AD where
 |undef
 |bool (b:Bool)
 |int (k:IntKind) (n:Int)
 |str (s:List UInt8)
 |ptr (r:Option (Nat×Nat))
 |GM (g o:Nat)
 |slice (r:Option (Nat×Nat)) (len:Nat)
 |map (r:Option Nat)
 |chan (r:Option Nat)
 |func (fn:Fn) (first captured:List AD)
 |nilFunc
 |iface (t:TypeId) (v:AD)
 |nilIface
 |agg (cs:List AD)
 |tuple (vs:List AD)
 deriving Inhabited
inductive Br where
 |cells (grow:Option TypeId) (st:Nat) (cs:List AD)
 |map (st:Nat) (es:List (AD×AD))
 |iter (s:List UInt8) (pos:Nat)
 deriving Inhabited
inductive Tr(α:Type) where
 |leaf
 |node (l:Tr α) (v:Option α) (r:Tr α)
def Tr.get{α:Type}:Tr α->Nat->Option α
 | .leaf,_=>none
 | .node l v r,i=>bif Nat.beq i 0 then v else bif Nat.beq (i%2) 1 then l.get (i / 2)else r.get (i / 2 - 1)
def Tr.set{α:Type}:Nat->Tr α->Nat->α->Tr α
 |0,t,_,_=>t
 |f+1,.leaf,i,x=>bif Nat.beq i 0 then .node .leaf (some x) .leaf else bif Nat.beq (i%2) 1 then .node (Tr.set f .leaf (i / 2) x) none .leaf else .node .leaf none (Tr.set f .leaf (i / 2 - 1) x)
 |f+1,.node l v r,i,x=>bif Nat.beq i 0 then .node l (some x) r else bif Nat.beq (i%2) 1 then .node (Tr.set f l (i / 2) x) v r else .node l v (Tr.set f r (i / 2 - 1) x)
structure AE where
 size:Nat
 tr:Tr Br
def AE.get(h:AE)(i:Nat):Option Br:=bif Nat.blt i h.size then h.tr.get i else none
def AE.set(h:AE)(i:Nat)(o:Br):AE:=⟨h.size,Tr.set (i+1) h.tr i o⟩
def AE.push(h:AE)(o:Br):AE:=⟨h.size+1,Tr.set (h.size+1) h.tr h.size o⟩
structure Gd where
 floor:Nat
 Bs:List Nat
def Gd.may(g:Gd)(id:Nat):Bool:=Nat.ble g.floor id&& !(g.Bs.any (Nat.beq id))
abbrev Fr:=List AD
def nth:List AD->Nat->AD
 |[],_=>.tuple []
 |a::_,0=>a
 |_::l,i+1=>nth l i
def put(fr:Fr)(dst:Option Tmp)(v:AD):Fr:=
 match dst with
 |some d=>fr.set d v
 |none=>fr
def AD.one:AD->Bool
 | .undef| .agg _| .tuple _=>false
 |_=>true
def AD.cells?:AD->Option (List AD)
 | .undef| .tuple _=>none
 | .agg cs=>some cs
 |v=>some [v]
def I3:Value->AD
 | .bool b=>.bool b
 | .int k n=>.int k n
 | .string s=>.str s.data.toList
 | .pointer none=>.ptr none
 | .slice none 0 0=>.slice none 0
 | .map none=>.map none
 | .chan none=>.chan none
 | .nilFunc=>.nilFunc
 | .nilIface=>.nilIface
 |_=>.undef
def Pf:Value->AD
 | .agg cs=>.agg (cs.toList.map I3)
 | .tuple vs=>.tuple (vs.toList.map I3)
 |v=>I3 v
def ev(fr:Fr):Operand->AD
 | .tmp t=>nth fr t
 | .const v=>Pf v
 | .global g=>.GM g 0
 | .func f=>.func (.func f) [] []
def Cu(cs:List AD)(o:Nat)(new:List AD):List AD:=cs.take o++(new++cs.drop (o+new.length))
section
variable (P:Program)
def B9(t:TypeId):Option Nat:=(P.info? t).map (·.size)
def Hi(t:TypeId):Option Bool:=
 match P.underlying t with
 |some (.struct _)|some (.array _ _)=>some true
 |some _=>some false
 |none=>none
def B2(ob:Option Br)(o n:Nat):Option (List AD):=
 match ob with
 |some (.cells _ st cs)=>if st≠0/\o+n<=cs.length then some ((cs.drop o).take n)else none
 |_=>none
def Fi(ob:Option Br)(t:TypeId)(o:Nat):Option AD:=
 match Hi P t with
 |some true=>(B9 P t).bind λn=>(B2 ob o n).map .agg
 |some false=>
  match B2 ob o 1 with
  |some [v]=>some v
  |_=>none
 |none=>none
def By(g:Gd)(h:AE)(id o:Nat)(new:List AD):Option AE:=
 match h.get id with
 |some (.cells gr 2 cs)=>if g.may id=true/\o+new.length<=cs.length/\new.all AD.one=true then some (h.set id (.cells gr 2 (Cu cs o new)))else none
 |_=>none
def HA(g:Gd)(h:AE)(t:TypeId)(id o:Nat)(v:AD):Option AE:=
 match v.cells?,B9 P t with
 |some new,some n=>if new.length=n then By g h id o new else none
 |_,_=>none
abbrev Pz:=(Nat->AD)×Br
def I7(v:AD):Option Pz:=
 match v.cells? with
 |some cs=>if cs.all AD.one=true then some (λn=>.ptr (some (n,0)),.cells none 2 cs)else none
 |none=>none
def GN(t:TypeId):Option AD:=
 match P.info? t with
 |some i=>i.zero.map Pf
 |none=>none
def Hd(place:Nat->Option (Nat×Nat))(cells:List AD):List (Nat×AD)->Option (List AD)
 |[]=>some cells
 |(i,v)::rest=>
  match place i,v.cells? with
  |some (off,size),some new=>if new.length=size/\off+size<=cells.length then Hd place (Cu cells off new) rest else none
  |_,_=>none
def LY(fs:List Field):Option (List (Nat×Nat)):=fs.mapM λf=>(P.info? f.type).map λi=>(f.offset,i.size)
def Mx(t:TypeId)(parts:List (Nat×AD)):Option AD:=
 match P.underlying t,(GN P t).bind AD.cells? with
 |some (.array _ e),some z=>(B9 P e).bind λn=>(Hd (λi=>some (i*n,n)) z parts).map .agg
 |some (.struct fs),some z=>(LY P fs.toList).bind λps=>(Hd (ps[·]?) z parts).map .agg
 |_,_=>none
def Cs(z:List AD):Nat->List AD
 |0=>[]
 |n+1=>z++Cs z n
def KR(t:TypeId)(len:Nat)(parts:List (Nat×AD)):Option Pz:=
 match P.underlying t with
 | some (.slice e)=>
  match B9 P e,(GN P e).bind AD.cells? with
  | some n,some z=>
   if len*n<=16777216/\z.length=n/\n≠0 then
    match Hd (λi=>some (i*n,n)) (Cs z len) parts with
    |some cs=>if cs.all AD.one=true then some (λn=>.slice (some (n,0)) len,.cells (some e) 2 cs)else none
    |none=>none
   else none
  |_,_=>none
 |_=>none
def KD(op:BinOp)(k:IntKind)(a b:Int):Option AD:=
 match op with
 | .add=>some (.int k (k.wrap (a+b)))
 | .sub=>some (.int k (k.wrap (a - b)))
 | .mul=>some (.int k (k.wrap (a*b)))
 | .quo=>if b=0 then none else some (.int k (k.wrap (a.tdiv b)))
 | .rem=>if b=0 then none else some (.int k (a.tmod b))
 | .and=>some (.int k (k.wrap (BitVec.ofInt k.bits a &&& BitVec.ofInt k.bits b).toNat))
 | .or=>some (.int k (k.wrap (BitVec.ofInt k.bits a ||| BitVec.ofInt k.bits b).toNat))
 | .xor=>some (.int k (k.wrap (BitVec.ofInt k.bits a ^^^ BitVec.ofInt k.bits b).toNat))
 | .andNot=>some (.int k (k.wrap (BitVec.ofInt k.bits a &&& ~~~BitVec.ofInt k.bits b).toNat))
 | .eql=>some (.bool (a==b))
 | .neq=>some (.bool (a !=b))
 | .lss=>some (.bool (decide (a<b)))
 | .leq=>some (.bool (decide (a<=b)))
 | .gtr=>some (.bool (decide (a>b)))
 | .geq=>some (.bool (decide (a>=b)))
 |_=>none
def LQ(op:BinOp)(k:IntKind)(a b:Int):Option AD:=
 if b<0 then none else
 match op with
 | .shl=>some (.int k (k.wrap (a*2^(min b.toNat k.bits))))
 | .shr=>some (.int k (a.fdiv (2^(min b.toNat k.bits))))
 |_=>none
def L6(op:BinOp)(a b:List UInt8):Option AD:=
 match op with
 | .add=>if a.length+b.length<=9223372036854775807 then some (.str (a++b))else none
 | .eql=>some (.bool (a==b))
 | .neq=>some (.bool !(a==b))
 | .lss=>some (.bool (Op.bytesLess a b))
 | .leq=>some (.bool (Op.bytesLess a b||a==b))
 | .gtr=>some (.bool !(Op.bytesLess a b||a==b))
 | .geq=>some (.bool !(Op.bytesLess a b))
 |_=>none
def EV(t:TypeId)(cs:List AD)(off:Nat):Option AD:=
 match Hi P t with
 |some true=>(B9 P t).bind λn=>if off+n<=cs.length then some (.agg ((cs.drop off).take n))else none
 |some false=>cs[off]?
 |none=>none
def eqFields(eq:TypeId->AD->AD->Option Bool)(xs ys:List AD):List Field->Option Bool
 |[]=>some true
 | f::fs=>
  if f.name="_" then eqFields eq xs ys fs else
  match EV P f.type xs f.offset,EV P f.type ys f.offset with
  |some a,some b=>
   match eq f.type a b with
   |some true=>eqFields eq xs ys fs
   |some false=>some false
   |none=>none
  |_,_=>none
def GQ(eq:TypeId->AD->AD->Option Bool)(e:TypeId)(z:Nat)(xs ys:List AD):Nat->Nat->Option Bool
 |0,_=>some true
 | n+1,i=>
  match EV P e xs (i*z),EV P e ys (i*z)with
  |some a,some b=>
   match eq e a b with
   |some true=>GQ eq e z xs ys n (i+1)
   |some false=>some false
   |none=>none
  |_,_=>none
def Hb:Nat->TypeId->AD->AD->Option Bool
 |0,_,_,_=>none
 |d+1,t,x,y=>
  match P.underlying t,x,y with
  |some .bool,.bool a,.bool b=>some (a==b)
  |some (.int _),.int k a,.int k' b=>if k=k' then some (a==b)else none
  |some .string,.str a,.str b=>some (a==b)
  |some (.pointer _),.ptr none,.ptr b=>some b.isNone
  |some (.pointer _),.ptr (some _),.ptr none=>some false
  |some (.slice _),.slice none _,.slice b _=>some b.isNone
  |some (.slice _),.slice (some _) _,.slice none _=>some false
  |some (.map _ _),.map none,.map b=>some b.isNone
  |some (.map _ _),.map (some _),.map none=>some false
  |some (.func _ _ _),.nilFunc,.nilFunc=>some true
  |some (.func _ _ _),.nilFunc,.func _ _ _=>some false
  |some (.func _ _ _),.func _ _ _,.nilFunc=>some false
  |some (.struct fs),.agg xs,.agg ys=>if P.stoodInHeld t=true then none else eqFields P (Hb d) xs ys fs.toList
  |some (.array n e),.agg xs,.agg ys=>(B9 P e).bind λz=>GQ P (Hb d) e z xs ys n 0
  |_,_,_=>none
def M7:AD->Bool
 | .bool _| .ptr _| .slice _ _| .map _| .nilFunc| .func _ _ _=>true
 |_=>false
def Nt(op:BinOp)(t:TypeId)(x y:AD):Option AD:=
 match x,y with
 | .int k a,.int k' b=>
  match op with
  | .shl| .shr=>LQ op k a b
  |_=>if k=k' then KD op k a b else none
 | .str a,.str b=>L6 op a b
 | .agg xs,.agg ys=>
  if P.eqGuardType P.depth t=true then none else
  match op with
  | .eql=>(Hb P 10000 t (.agg xs) (.agg ys)).map .bool
  | .neq=>(Hb P 10000 t (.agg xs) (.agg ys)).map λb=>.bool !b
  |_=>none
 | x,y=>
  if M7 x=true then
   match op with
   | .eql=>(Hb P 10000 t x y).map .bool
   | .neq=>(Hb P 10000 t x y).map λb=>.bool !b
   |_=>none
  else none
def Wn(op:UnOp)(x:AD):Option AD:=
 match op,x with
 | .neg,.int k n=>KD .sub k 0 n
 | .xor,.int k n=>KD .xor k (if k.signed then -1 else k.max) n
 | .not,.bool b=>some (.bool !b)
 |_,_=>none
def bytesOf:List AD->Option (List UInt8)
 |[]=>some []
 | .int .u8 n::r=>(bytesOf r).map (UInt8.ofNat n.toNat::·)
 |_=>none
def PH(ob:Option Br)(src dst:TypeId)(x:AD):Option AD:=
 match P.underlying src,P.underlying dst,x with
 | some (.slice e),some .string,.slice r n=>
  match P.underlying e with
  |some (.int .u8)=>
   match r with
   |none=>some (.str [])
   |some (_,o)=>if n=0 then some (.str [])else(B2 ob o n).bind λcs=>(bytesOf cs).map .str
  |_=>none
 |_,_,_=>none
def GW(t:TypeId)(l c:AD):Option Pz:=
 match P.underlying t,l,c with
 | some (.slice e),.int _ l,.int _ c=>
  match P.info? e with
  | some i=>
   match i.zero.map Pf with
   | some z=>
    match z.cells? with
    | some zc=>
     if 0<=l/\l<=c/\c<=1099511627776/\i.bytes*c<=1099511627776/\zc.length=i.size/\zc.all AD.one=true then
      some (λn=>.slice (some (n,0)) l.toNat,.cells (some e) 2 (Cs zc c.toNat))
     else none
    |none=>none
   |none=>none
  |none=>none
 |_,_,_=>none
def Di(n:Nat)(lo hi:Option AD):Option (Nat×Nat):=
 match hi with
 | some (.int _ u)=>
  if 0<=u/\u<=n then
   match lo with
   |some (.int _ l)=>if 0<=l/\l<=u then some (l.toNat,u.toNat)else none
   |some _=>none
   |none=>some (0,u.toNat)
  else none
 |some _=>none
 |none=>
  match lo with
  |some (.int _ l)=>if 0<=l/\l<=n then some (l.toNat,n)else none
  |some _=>none
  |none=>some (0,n)
def PD(t:TypeId)(x:AD)(lo hi:Option AD):Option AD:=
 match P.underlying t,x with
 |some .string,.str s=>(Di s.length lo hi).map λ(l,u)=>.str ((s.drop l).take (u - l))
 |_,_=>none
def OG(ob:Option Br)(t:TypeId)(x:AD)(lo hi:Option AD):Option AD:=
 match P.underlying t,x with
 |some (.array n e),.ptr (some (id,o))=>
  match ob with
  |some (.cells none _ _)=>(B9 P e).bind λz=>(Di n lo hi).map λ(l,u)=>.slice (some (id,o+l*z)) (u - l)
  |_=>none
 |some (.slice e),.slice none 0=>(B9 P e).bind λ_=>(Di 0 lo hi).map λ_=>.slice none 0
 |some (.slice e),.slice (some (id,o)) n=>
  match ob,B9 P e with
  |some (.cells none _ _),some z=>(Di n lo hi).map λ(l,u)=>.slice (some (id,o+l*z)) (u - l)
  |some (.cells (some e') _ _),some z=>if B9 P e'=some z then(Di n lo hi).map λ(l,u)=>.slice (some (id,o+l*z)) (u - l)else none
  |_,_=>none
 |_,_=>none
def Hu(s:TypeId)(x:AD)(f:Nat):Option AD:=
 match P.underlying s,x with
 | some (.struct fs),.ptr (some (id,o))=>
  match fs[f]? with
  |some fd=>
   match B9 P fd.type with
   |some 0=>none
   |some _=>some (.ptr (some (id,o+fd.offset)))
   |none=>none
  |none=>none
 | some (.struct fs),.GM g o=>
  match fs[f]? with
  |some fd=>
   match B9 P fd.type with
   |some 0=>none
   |some _=>some (.GM g (o+fd.offset))
   |none=>none
  |none=>none
 |_,_=>none
def NI(s:TypeId)(x:AD)(f:Nat):Option AD:=
 match P.underlying s,x with
 |some (.struct fs),.agg cs=>
  match fs[f]? with
  |some fd=>EV P fd.type cs fd.offset
  |none=>none
 |_,_=>none
def Fa(t:TypeId)(x i:AD):Option AD:=
 match P.underlying t,x,i with
 |some (.array n e),.ptr (some (id,o)),.int _ i=>if 0<=i/\i<n then(B9 P e).map λz=>.ptr (some (id,o+i.toNat*z))else none
 |some (.slice e),.slice (some (id,o)) n,.int _ i=>if 0<=i/\i<n then(B9 P e).map λz=>.ptr (some (id,o+i.toNat*z))else none
 |some (.array n e),.GM g o,.int _ i=>if 0<=i/\i<n then(B9 P e).map λz=>.GM g (o+i.toNat*z)else none
 |_,_,_=>none
def Lh(t:TypeId)(x i:AD):Option AD:=
 match P.underlying t,x,i with
 |some (.array n e),.agg cs,.int _ i=>if 0<=i/\i<n then(B9 P e).bind λz=>EV P e cs (i.toNat*z)else none
 |some .string,.str s,.int _ i=>if 0<=i then(s[i.toNat]?).map λb=>.int .u8 b.toNat else none
 |_,_,_=>none
def Ch(h:AE)(z n:Nat):AD->Option (List AD)
 | .slice (some (id,o)) _=>if n=0 then some []else B2 (h.get id) o (n*z)
 | .slice none _=>if n=0 then some []else none
 | .str s=>if z=1 then some ((s.take n).map λb=>.int .u8 b.toNat)else none
 |_=>none
def LI:AD->Option Nat
 | .slice _ n=>some n
 | .str s=>some s.length
 |_=>none
def JY:TypeDesc->Bool
 | .int _=>false
 |_=>true
def Mo(g:Gd)(h:AE)(ts:Array TypeId)(d x:AD):Option (AD×AE):=
 match ts[0]?,d,LI x with
 | some dt,.slice r dl,some sl=>
  match P.underlying dt with
  | some (.slice e)=>
   match B9 P e with
   |some z=>
    match Ch h z (min sl dl) x,r with
    |some new,some (id,o)=>if min sl dl=0 then some (.int .i64 0,h)else(By g h id o new).map λh'=>(.int .i64 (min sl dl:Nat),h')
    |some _,none=>if min sl dl=0 then some (.int .i64 0,h)else none
    |none,_=>none
   |none=>none
  |_=>none
 |_,_,_=>none
def SJ(ts:Array TypeId)(x:AD):Option AD:=
 match ts[0]? with
 |none=>none
 |some t=>
  match P.underlying t,x with
  |some .string,.str s=>some (.int .i64 s.length)
  |some (.array n _),_=>some (.int .i64 n)
  |some (.slice _),.slice _ n=>some (.int .i64 n)
  |_,_=>none
def Rh(ob:Option Br)(ts:Array TypeId)(x:AD):Option AD:=
 match ts[0]? with
 |none=>none
 | some t=>
  match P.underlying t,x with
  |some (.map _ _),.map none=>some (.int .i64 0)
  |some (.map _ _),.map (some _)=>
   match ob with
   |some (.map st es)=>if st≠0 then some (.int .i64 es.length)else none
   |_=>none
  |_,_=>none
def HX(mx:Bool):AD->List AD->Option AD
 |v,[]=>some v
 | .int k a,.int k' b::r=>if k=k' then HX mx (.int k (if mx then(if b>a then b else a)else(if b<a then b else a))) r else none
 |_,_=>none
def FN(t:TypeId)(k:AD):List (AD×AD)->Nat->Option (Option (Nat×AD))
 |[],_=>some none
 |(k',v)::es,i=>
  match Hb P 10000 t k k' with
  |some true=>some (some (i,v))
  |some false=>FN t k es (i+1)
  |none=>none
def G8:Nat->TypeId->AD->Bool
 |0,_,_=>false
 |d+1,t,v=>
  match P.underlying t,v with
  |some (.int _),.int _ _=>true
  |some .string,.str _=>true
  |some .bool,.bool _=>true
  |some (.struct fs),.agg cs=>fs.toList.all (λf=>f.name !="_"&&(match EV P f.type cs f.offset with|some x=>G8 d f.type x|none=>false))
  |some (.array n e),.agg cs=>(match B9 P e with|some z=>(List.range n).all (λi=>match EV P e cs (i*z)with|some x=>G8 d e x|none=>false)|none=>false)
  |_,_=>false
def Lc(ob:Option Br)(t:TypeId)(x k:AD)(ok:Bool):Option AD:=
 match P.underlying t,x with
 | some (.map kt et),.map r=>
  if G8 P 20 kt k=true then
   match(match r with|none=>some []|some _=>match ob with|some (.map st es)=>if st≠0 then some es else none|_=>none)with
   |some es=>
    match FN P kt k es 0 with
    |some (some (_,v))=>some (if ok then .tuple [v,.bool true]else v)
    |some none=>(GN P et).map λz=>if ok then .tuple [z,.bool false]else z
    |none=>none
   |none=>none
  else none
 |_,_=>none
def As:Op->Nat
 | .move _| .assign _| .pick .. | .build .. | .nilCheck _| .binOp .. | .unOp .. | .makeFunc .. | .fieldAddr .. | .field .. | .indexAddr .. | .index .. | .extract .. =>0
 | .slice t .. =>match P.underlying t with|some .string=>0|_=>1
 | .convert s d _=>
  match P.underlying s,P.underlying d with
  |some (.slice _),some .string=>1
  |_,some (.slice _)=>2
  |_,_=>0
 | .load .. | .lookup .. =>1
 | .alloc _| .box .. | .buildSlice .. | .makeMap .. | .makeSlice .. | .range .. =>2
 | .call {callee:=.builtin .len,argTypes:=ts,..}=>
  match ts[0]? with
  |some t=>match P.underlying t with|some (.map _ _)=>1|_=>0
  |none=>0
 | .call {callee:=.builtin .min,..}| .call {callee:=.builtin .max,..}=>0
 |_=>3
def Gj(fr:Fr):Op->Option AD
 | .move x| .assign x=>some (ev fr x)
 | .pick c a b=>
  match ev fr c with
  | .bool b'=>some (bif b' then ev fr a else ev fr b)
  |_=>none
 | .build t parts=>Mx P t (parts.toList.map λ(i,x)=>(i,ev fr x))
 | .nilCheck x=>
  match ev fr x with
  | .ptr (some r)=>some (.ptr (some r))
  | .GM g o=>some (.GM g o)
  | .func (.func f) a b=>some (.func (.func f) a b)
  |_=>none
 | .binOp op t x y _=>Nt P op t (ev fr x) (ev fr y)
 | .unOp op _ x=>Wn op (ev fr x)
 | .fieldAddr s x f=>Hu P s (ev fr x) f
 | .field s x f=>NI P s (ev fr x) f
 | .indexAddr t x i=>Fa P t (ev fr x) (ev fr i)
 | .index t x i=>Lh P t (ev fr x) (ev fr i)
 | .call {callee:=.builtin b,args:=asE9,argTypes:=ts}=>
  match b,asE9.toList.map (ev fr)with
  | .len,[x]=>SJ P ts x
  | .min,x::r=>HX false x r
  | .max,x::r=>HX true x r
  |_,_=>none
 |_=>none
def EN:AD->Option Nat
 | .ptr (some (id,_))=>some id
 | .slice (some (id,_)) _=>some id
 | .map (some id)=>some id
 |_=>none
def Cm(fr:Fr):Op->Option Nat
 | .load _ x=>EN (ev fr x)
 | .slice _ x _ _ _=>EN (ev fr x)
 | .convert _ _ x=>EN (ev fr x)
 | .lookup _ x _ _=>EN (ev fr x)
 | .call {args:=asE9,..}=>
  match asE9.toList with
  |[x]=>EN (ev fr x)
  |_=>none
 |_=>none
def Iq(G:Nat->Option (List AD))(fr:Fr)(ob:Option Br):Op->Option AD
 | .load t a=>
  match ev fr a with
  | .ptr (some (_,o))=>Fi P ob t o
  | .GM g o=>Fi P ((G g).map λcs=>.cells none 1 cs) t o
  |_=>none
 | .call {callee:=.builtin .len,args:=asE9,argTypes:=ts}=>
  match asE9.toList with
  |[x]=>Rh P ob ts (ev fr x)
  |_=>none
 |_=>none
def L1(fr:Fr):Op->Option Pz
 | .alloc e=>(GN P e).bind I7
 | .box _ x=>I7 (ev fr x)
 | .makeSlice t l c=>GW P t (ev fr l) (ev fr c)
 |_=>none
def Ib(g:Gd)(h:AE)(fr:Fr):Op->Option (AD×AE)
 | .store t a x=>
  match ev fr a with
  | .ptr (some (id,o))=>(HA P g h t id o (ev fr x)).map (.tuple [],·)
  |_=>none
 | .call {callee:=.builtin b,args:=asE9,argTypes:=ts}=>
  match b,asE9.toList.map (ev fr)with
  | .copy,[d,x]=>Mo P g h ts d x
  |_,_=>none
 |_=>none
def Gn(G:Nat->Option (List AD))(g:Gd)(h:AE)(fr:Fr)(op:Op):Option (AD×AE):=
 match As P op with
 |0=>(Gj P fr op).map (·,h)
 | 1=>
  match Cm fr op with
  |none=>(Iq P G fr none op).map (·,h)
  |some id=>
   match h.get id with
   |some ob=>(Iq P G fr (some ob) op).map (·,h)
   |none=>none
 |2=>(L1 P fr op).map λx=>(x.1 h.size,h.push x.2)
 |_=>Ib P g h fr op
end
structure Gf where
 P:Program
 kind:Nat->Nat
 Ky:Nat->Nat->List (Nat×List Nat)
 ext:Nat->Gd->AE->List AD->Option (AD×AE)
 C4:Nat->Option (List AD):=λ_=>none
inductive DF where
 |normal
 |exit (id:Nat)
 |ret
structure Self where
 call:Gd->AE->FuncId->List AD->Option (AD×AE)
 loop:Gd->FuncId->Code->Fr->AE->Option (DF×Fr×AE)
section
variable (C:Gf) (S:Self)
def BI(g:Gd)(h:AE)(fr:Fr)(op:Op):Option (AD×AE):=
 match op with
 | .call {callee:=.value x,args:=asE9,..}=>
  match ev fr x with
  | .func (.func f) first cap=>S.call g h f (first++(asE9.toList.map (ev fr)++cap))
  |_=>none
 |op=>Gn C.P C.C4 g h fr op
def Bp(ops:Array Oper)(fr:Fr)(o:Oper):Option Bool:=
 match o.guard with
 |none=>some true
 | some (j,want)=>
  match(ops[j]?).bind (·.dst)with
  |none=>some false
  |some d=>
   match nth fr d with
   | .bool b=>some (b==want)
   | .undef=>none
   |_=>some false
def EF(g:Gd)(ops:Array Oper):List Oper->Fr->AE->Option (Fr×AE)
 |[],fr,h=>some (fr,h)
 | o::rest,fr,h=>
  match Bp ops fr o with
  |some true=>
   match BI C S g h fr o.op with
   |some (v,h')=>EF g ops rest (put fr o.dst v) h'
   |none=>none
  |some false=>EF g ops rest (put fr o.dst (.tuple [])) h
  |none=>none
def FQ(tch:List (Nat×Nat))(U:List Nat):List Nat:=tch.filterMap λ(i,id)=>bif U.any (Nat.beq i)then some id else none
def EE(P:Program)(h:AE)(fr:Fr)(i:Nat)(op:Op)(tch:List (Nat×Nat)):List (Nat×Nat):=
 match As P op with
 |1=>match Cm fr op with|some id=>(i,id)::tch|none=>tch
 |2=>(i,h.size)::tch
 |_=>tch
def Bl(g:Gd)(ops:Array Oper):List (Nat×List Nat)->List (Nat×Nat)->Fr->AE->Option (Fr×AE)
 |[],_,fr,h=>some (fr,h)
 | (i,U)::rest,tch,fr,h=>
  match ops[i]? with
  |none=>none
  | some o=>
   match Bp ops fr o with
   |some true=>
    match BI C S ⟨g.floor,FQ tch U++g.Bs⟩ h fr o.op with
    |some (v,h')=>Bl g ops rest (EE C.P h fr i o.op tch) (put fr o.dst v) h'
    |none=>none
   |some false=>Bl g ops rest tch (put fr o.dst (.tuple [])) h
   |none=>none
def BF(f:FuncId)(g:Gd):Code->Fr->AE->Option (DF×Fr×AE)
 | .skip,fr,h=>some (.normal,fr,h)
 | .label _,fr,h=>some (.normal,fr,h)
 | .region id ops draw,fr,h=>
  match(bif draw then Bl C S g ops (C.Ky f id) [] fr h else EF C S g ops ops.toList fr h)with
  |some (fr',h')=>some (.normal,fr',h')
  |none=>none
 | .seq a b,fr,h=>
  match BF f g a fr h with
  |some (.normal,fr',h')=>BF f g b fr' h'
  |r=>r
 | .cond c a b,fr,h=>
  match ev fr c with
  | .bool true=>BF f g a fr h
  | .bool false=>BF f g b fr h
  |_=>none
 | .block id c,fr,h=>
  match BF f g c fr h with
  |some (.exit i,fr',h')=>bif Nat.beq i id then some (.normal,fr',h')else some (.exit i,fr',h')
  |r=>r
 | .loop c,fr,h=>
  match BF f g c fr h with
  |some (.normal,fr',h')=>S.loop g f c fr' h'
  |r=>r
 | .exit id,fr,h=>some (.exit id,fr,h)
 | .scope c,fr,h=>BF f g c fr h
 | .ret,fr,h=>some (.ret,fr,h)
 |_,_,_=>none
def Fb(P:Program)(fr:Fr)(h:AE):ResultVar->Option AD
 | .tmp t=>some (nth fr t)
 | .cell a t=>
  match nth fr a with
  | .ptr (some (id,o))=>Fi P (h.get id) t o
  |_=>none
def FY(P:Program)(fn:Func)(fr:Fr)(h:AE):Option AD:=
 match fn.results.toList.mapM (Fb P fr h)with
 |some [v]=>some v
 |some vs=>some (.tuple vs)
 |none=>none
def Fq:AD->Bool
 | .bool _| .int _ _| .str _| .ptr none| .slice none _| .map none| .chan none| .nilFunc| .nilIface=>true
 |_=>false
def HS:AD->Bool
 | .agg cs=>cs.all Fq
 |v=>Fq v
def MX:AD->Bool
 | .tuple vs=>vs.all HS
 |v=>HS v
def Gk(g:Gd)(h:AE)(f:FuncId)(args:List AD):Option (AD×AE):=
 match C.P.funcs[f]? with
 |none=>none
 | some fn=>
  match fn.body with
  |none=>none
  |some c=>
   match BF C S f g c (args++List.replicate (fn.ntmps - args.length) (.tuple [])) h with
   |some (.normal,fr,h')=>(FY C.P fn fr h').map (·,h')
   |some (.ret,fr,h')=>(FY C.P fn fr h').map (·,h')
   |_=>none
def HT(g:Gd)(h:AE)(f:FuncId)(args:List AD):Option (AD×AE):=
 match C.kind f with
 |1=>Gk C S g h f args
 |2=>
  match Gk C S ⟨h.size,[]⟩ h f args with
  |some (v,_)=>bif MX v then some (v,h)else none
  |none=>none
 |3=>C.ext f g h args
 | 4=>
  bif args.all HS then
   match Gk C S ⟨0,[]⟩ ⟨0,.leaf⟩ f args with
   |some (v,_)=>bif MX v then some (v,h)else none
   |none=>none
  else none
 |_=>none
end
def CV(C:Gf):Nat->Self
 |0=>⟨λ_ _ _ _=>none,λ_ _ _ _ _=>none⟩
 |n+1=>⟨HT C (CV C n),λg f c=>BF C (CV C n) f g (.loop c)⟩
def Td(C:Gf)(n:Nat)(g:Gd)(h:AE)(f:FuncId)(args:List AD):Option (AD×AE):=(CV C n).call g h f args
end Go.Abs
