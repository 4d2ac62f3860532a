/-
 A part.
-/
import Derived.Calls
set_option linter.unusedSimpArgs false
namespace Go.Av
set_option linter.defProp false
def za:=@Option.bind_some
def zb:=@Nat.le_of_ble_eq_true
def zd:=@Option.some.injEq
def ze:=@Prod.mk.injEq
def zf:=@Option.map_some
def zg:=@Option.map_eq_some_iff
def zh:=@decide_eq_false
def zi:=@decide_eq_true
def zj:=@Bool.and_eq_true
def zk:=@if_pos
def zl:=@Int.toNat_natCast
def zm:=@if_neg
def zn:=@Int.eq_ofNat_of_zero_le
def zo:=@Nat.le_refl
def zp:=@List.mem_append
def zq:=@List.length_append
def zr:=@List.length_set
def zt:=@List.eq_nil_of_length_eq_zero
def zu:=@Array.getD_eq_getD_getElem?
def zw:=@Option.some.inj
def zx:=@decide_eq_true_eq
def zy:=@List.length_singleton
def zA:=@List.getD_eq_getElem?_getD
def zB:=@decide_eq_false_iff_not
def zC:=@List.take_append_drop
def zD:=@List.length_cons
def zE:=@List.drop_eq_getElem_cons
def zF:=@List.all_eq_true
def zG:=@Bool.or_eq_false_iff
def zH:=@List.mem_singleton
def zI:=@List.mem_of_getElem?
def zJ:=@Nat.eq_of_beq_eq_true
def zK:=@Bool.not_eq_true'
def zL:=@List.length_drop
def zM:=@List.mem_cons_of_mem
def zN:=@Int.le_refl
def zO:=@List.append_assoc
def zP:=@List.length_take
def zQ:=@List.length_nil
def zR:=@Nat.lt_of_lt_of_le
def zS:=@Nat.zero_le
def zT:=@List.mem_cons
def zU:=@List.take_of_length_le
def zV:=@Nat.le_trans
def zW:=@Bool.or_eq_true
def zX:=@List.getElem_mem
def zY:=@cond_true
def zZ:=@Nat.add_assoc
def z6:=@Bool.not_true
def z7:=@List.mem_map
def z8:=@List.nodup_append
def ya:=@List.flatMap_cons
def yb:=@Option.getD_some
def yc:=@List.set_eq_take_append_cons_drop
def yd:=@Nat.lt_or_ge
def ye:=@List.nil_append
def yf:=@cond_false
def yg:=@Bool.not_eq_false'
def yh:=@Nat.add_mul
def yi:=@Nat.mul_le_mul_right
def yj:=@Nat.mul_eq_zero
def yl:=@List.cons_append
def ym:=@List.mem_flatMap
def yn:=@List.drop_zero
def yo:=@List.mem_cons_self
def yp:=@List.map_append
def yq:=@List.length_map
def yr:=@List.append_nil
def yu:=@beq_iff_eq
def yv:=@Array.length_toList
def yw:=@List.mem_range
def yx:=@Bool.false_eq_true
def yy:=@Nat.sub_self
def yz:=@Bool.and_eq_false_iff
def yA:=@List.drop_length_add_append
def yB:=@List.drop_drop
def yC:=@Nat.le_max_right
def yD:=@List.take_succ_cons
def yE:=@List.map_cons
def yF:=@List.all_cons
def yG:=@List.nodup_cons
def yH:=@List.mem_filter
def yI:=@Nat.le_max_left
def yJ:=@Nat.blt_eq
def yK:=@Nat.eq_zero_or_pos
def yL:=@Nat.beq_refl
def yM:=@List.length_filter_le
def yN:=@List.singleton_append
def yO:=@beq_self_eq_true
def yP:=@List.mem_of_mem_take
def yQ:=@List.drop_append_of_le_length
def yR:=@List.dropLast_concat_getLast
def yS:=@List.getElem_of_mem
def yT:=@beq_eq_false_iff_ne
def yU:=@List.take_length_add_append
def yV:=@Nat.add_zero
def yW:=@List.perm_append_comm_assoc
def yX:=@List.take_left
def yY:=@Nat.lt_or_gt_of_ne
def yZ:=@List.mem_or_eq_of_mem_set
def qa:=@List.ext_getElem?
def qb:=@Nat.lt_trichotomy
def qc:=@Bool.and_self
def qd:=@Array.toList_map
def qe:=@List.take_length
def qf:=@List.length_eq_zero_iff
def qg:=@List.drop_eq_nil_of_le
def qh:=@Bool.eq_iff_iff
def qi:=@List.mem_iff_getElem?
def qj:=@List.length_replicate
def qk:=@Bool.not_false
def ql:=@List.mapM_cons
def qm:=@Bool.false_and
def qn:=@List.drop_left
def qo:=@List.drop_succ_cons
def qp:=@Bool.false_or
def qr:=@Bool.true_and
def qs:=@Array.forIn_toList
def qt:=@List.mem_filterMap
def qu:=@List.filter_append
def qv:=@Array.toList_push
def qw:=@Nat.sub_zero
def qx:=@Nat.zero_add
def qy:=@List.any_eq_true
def qz:=@List.filter_cons
def qA:=@List.not_mem_nil
def qB:=@Nat.one_mul
def qC:=@List.take_append_of_le_length
def qD:=@Nat.mul_one
def qE:=@List.foldl_cons
def qF:=@List.forIn_cons
def qG:=@List.all_append
def qH:=@List.any_append
def qI:=@List.cons.injEq
def qJ:=@List.range_succ
def qK:=@Array.toList_setIfInBounds
def qL:=@List.take_zero
def qM:=@true_and
def qN:=@List.filter_eq_nil_iff
def qO:=@List.drop_of_length_le
def qP:=@List.getElem_replicate
def qQ:=@List.mem_append_right
inductive AE where
 |undef
 |bool (b:Bool)
 |int (k:IntKind) (n:Int)
 |str (s:List UInt8)
 |ptr (r:Option (Nat×Nat))
 |L1 (g o:Nat)
 |slice (r:Option (Nat×Nat)) (len:Nat)
 |map (r:Option Nat)
 |chan (r:Option Nat)
 |func (fn:Fn) (first captured:List AE)
 |nilFunc
 |iface (t:TypeId) (v:AE)
 |nilIface
 |agg (cs:List AE)
 |tuple (vs:List AE)
 |Jd (n:Nat) (cs:List AE)
 |BL (cs:List AE)
 |Z9 (l:Nat)
 deriving Inhabited
inductive Dc where
 |cells (grow:Option TypeId) (st:Nat) (cs:List AE)
 |map (st:Nat) (es:List (AE×AE))
 |iter (s:List UInt8) (pos:Nat)
 |loop (st:Nat) (pend:Option Code) (f:FuncId) (fr:List AE) (ps:List Tmp) (a b:Code)
 |chan (cap:Nat) (buf:List AE)
 deriving Inhabited
inductive Tr(α:Type) where
 |leaf
 |node (l:Tr α) (v:Option α) (r:Tr α)
def Tr.get{α:Type}:Tr α->Nat->Option α
 | .leaf,_=>none
 | .node l v r,i=>bif Nat.beq i 0 then v else bif Nat.beq (i%2) 1 then l.get (i / 2)else r.get (i / 2 - 1)
def Tr.set{α:Type}:Nat->Tr α->Nat->α->Tr α
 |0,t,_,_=>t
 |f+1,.leaf,i,x=>bif Nat.beq i 0 then .node .leaf (some x) .leaf else bif Nat.beq (i%2) 1 then .node (Tr.set f .leaf (i / 2) x) none .leaf else .node .leaf none (Tr.set f .leaf (i / 2 - 1) x)
 |f+1,.node l v r,i,x=>bif Nat.beq i 0 then .node l (some x) r else bif Nat.beq (i%2) 1 then .node (Tr.set f l (i / 2) x) v r else .node l v (Tr.set f r (i / 2 - 1) x)
structure AS where
 size:Nat
 tr:Tr Dc
def AS.get(h:AS)(i:Nat):Option Dc:=bif Nat.blt i h.size then h.tr.get i else none
def AS.set(h:AS)(i:Nat)(o:Dc):AS:=⟨h.size,Tr.set (i+1) h.tr i o⟩
def AS.push(h:AS)(o:Dc):AS:=⟨h.size+1,Tr.set (h.size+1) h.tr h.size o⟩
structure Gd where
 floor:Nat
 Bb:List Nat
def Gd.may(g:Gd)(id:Nat):Bool:=Nat.ble g.floor id&& !(g.Bb.any (Nat.beq id))
abbrev Fr:=List AE
def nth:List AE->Nat->AE
 |[],_=>.tuple []
 |a::_,0=>a
 |_::l,i+1=>nth l i
def put(fr:Fr)(dst:Option Tmp)(v:AE):Fr:=
 match dst with
 |some d=>fr.set d v
 |none=>fr
def AE.one:AE->Bool
 | .undef| .agg _| .tuple _=>false
 |_=>true
def AE.cells?:AE->Option (List AE)
 | .undef| .tuple _=>none
 | .agg cs=>some cs
 |v=>some [v]
def PE:Value->AE
 | .bool b=>.bool b
 | .int k n=>.int k n
 | .string s=>.str s.data.toList
 | .pointer none=>.ptr none
 | .slice none 0 0=>.slice none 0
 | .map none=>.map none
 | .chan none=>.chan none
 | .nilFunc=>.nilFunc
 | .nilIface=>.nilIface
 |_=>.undef
def YC:Value->AE
 | .agg cs=>.agg (cs.toList.map PE)
 | .tuple vs=>.tuple (vs.toList.map PE)
 |v=>PE v
def ev(fr:Fr):Operand->AE
 | .tmp t=>nth fr t
 | .const v=>YC v
 | .global g=>.L1 g 0
 | .func f=>.func (.func f) [] []
def Fz(cs:List AE)(o:Nat)(new:List AE):List AE:=cs.take o++(new++cs.drop (o+new.length))
section
variable (P:Program)
def Dn(t:TypeId):Option Nat:=(P.info? t).map (·.size)
def Ly(t:TypeId):Option Bool:=
 match P.underlying t with
 |some (.struct _)|some (.array _ _)=>some true
 |some _=>some false
 |none=>none
def Dy(ob:Option Dc)(o n:Nat):Option (List AE):=
 match ob with
 |some (.cells _ st cs)=>if st≠0/\o+n<=cs.length then some ((cs.drop o).take n)else none
 |_=>none
def Im(ob:Option Dc)(t:TypeId)(o:Nat):Option AE:=
 match Ly P t with
 |some true=>(Dn P t).bind λn=>(Dy ob o n).map .agg
 |some false=>
  match Dy ob o 1 with
  |some [v]=>some v
  |_=>none
 |none=>none
def Ef(g:Gd)(h:AS)(id o:Nat)(new:List AE):Option AS:=
 match h.get id with
 |some (.cells gr 2 cs)=>if g.may id=true/\o+new.length<=cs.length/\new.all AE.one=true then some (h.set id (.cells gr 2 (Fz cs o new)))else none
 |_=>none
def MY(g:Gd)(h:AS)(t:TypeId)(id o:Nat)(v:AE):Option AS:=
 match v.cells?,Dn P t with
 |some new,some n=>if new.length=n then Ef g h id o new else none
 |_,_=>none
abbrev XU:=(Nat->AE)×Dc
def P1(v:AE):Option XU:=
 match v.cells? with
 |some cs=>if cs.all AE.one=true then some (λn=>.ptr (some (n,0)),.cells none 2 cs)else none
 |none=>none
def I2(t:TypeId):Option AE:=
 match P.info? t with
 |some i=>i.zero.map YC
 |none=>none
def L6(place:Nat->Option (Nat×Nat))(cells:List AE):List (Nat×AE)->Option (List AE)
 |[]=>some cells
 |(i,v)::rest=>
  match place i,v.cells? with
  |some (off,size),some new=>if new.length=size/\off+size<=cells.length then L6 place (Fz cells off new) rest else none
  |_,_=>none
def Sf(fs:List Field):Option (List (Nat×Nat)):=fs.mapM λf=>(P.info? f.type).map λi=>(f.offset,i.size)
def Um(t:TypeId)(parts:List (Nat×AE)):Option AE:=
 match P.underlying t,(I2 P t).bind AE.cells? with
 |some (.array _ e),some z=>(Dn P e).bind λn=>(L6 (λi=>some (i*n,n)) z parts).map .agg
 |some (.struct fs),some z=>(Sf P fs.toList).bind λps=>(L6 (ps[·]?) z parts).map .agg
 |_,_=>none
def G2(z:List AE):Nat->List AE
 |0=>[]
 |n+1=>z++G2 z n
def II:AE->AE
 | .slice none 0=>.Jd 0 []
 |v=>v
def Ml(t:TypeId)(len:Nat)(parts:List (Nat×AE)):Option XU:=
 match P.underlying t with
 | some (.slice e)=>
  match Dn P e,(I2 P e).bind AE.cells? with
  | some n,some z=>
   if len*n<=16777216/\z.length=n/\n≠0 then
    match L6 (λi=>some (i*n,n)) (G2 z len) parts with
    |some cs=>if(cs.map II).all AE.one=true then some (λn=>.slice (some (n,0)) len,.cells (some e) 2 (cs.map II))else none
    |none=>none
   else none
  |_,_=>none
 |_=>none
def QX(op:BinOp)(k:IntKind)(a b:Int):Option AE:=
 match op with
 | .add=>some (.int k (k.wrap (a+b)))
 | .sub=>some (.int k (k.wrap (a - b)))
 | .mul=>some (.int k (k.wrap (a*b)))
 | .quo=>if b=0 then none else some (.int k (k.wrap (a.tdiv b)))
 | .rem=>if b=0 then none else some (.int k (a.tmod b))
 | .and=>some (.int k (k.wrap (BitVec.ofInt k.bits a &&& BitVec.ofInt k.bits b).toNat))
 | .or=>some (.int k (k.wrap (BitVec.ofInt k.bits a ||| BitVec.ofInt k.bits b).toNat))
 | .xor=>some (.int k (k.wrap (BitVec.ofInt k.bits a ^^^ BitVec.ofInt k.bits b).toNat))
 | .andNot=>some (.int k (k.wrap (BitVec.ofInt k.bits a &&& ~~~BitVec.ofInt k.bits b).toNat))
 | .eql=>some (.bool (a==b))
 | .neq=>some (.bool (a !=b))
 | .lss=>some (.bool (decide (a<b)))
 | .leq=>some (.bool (decide (a<=b)))
 | .gtr=>some (.bool (decide (a>b)))
 | .geq=>some (.bool (decide (a>=b)))
 |_=>none
def Qz(op:BinOp)(k:IntKind)(a b:Int):Option AE:=
 if b<0 then none else
 match op with
 | .shl=>some (.int k (k.wrap (a*2^(min b.toNat k.bits))))
 | .shr=>some (.int k (a.fdiv (2^(min b.toNat k.bits))))
 |_=>none
def S0(op:BinOp)(a b:List UInt8):Option AE:=
 match op with
 | .add=>if a.length+b.length<=9223372036854775807 then some (.str (a++b))else none
 | .eql=>some (.bool (a==b))
 | .neq=>some (.bool !(a==b))
 | .lss=>some (.bool (Op.bytesLess a b))
 | .leq=>some (.bool (Op.bytesLess a b||a==b))
 | .gtr=>some (.bool !(Op.bytesLess a b||a==b))
 | .geq=>some (.bool !(Op.bytesLess a b))
 |_=>none
def IN(t:TypeId)(cs:List AE)(off:Nat):Option AE:=
 match Ly P t with
 |some true=>(Dn P t).bind λn=>if off+n<=cs.length then some (.agg ((cs.drop off).take n))else none
 |some false=>cs[off]?
 |none=>none
def eqFields(eq:TypeId->AE->AE->Option Bool)(xs ys:List AE):List Field->Option Bool
 |[]=>some true
 | f::fs=>
  if f.name="_" then eqFields eq xs ys fs else
  match IN P f.type xs f.offset,IN P f.type ys f.offset with
  |some a,some b=>
   match eq f.type a b with
   |some true=>eqFields eq xs ys fs
   |some false=>some false
   |none=>none
  |_,_=>none
def L0(eq:TypeId->AE->AE->Option Bool)(e:TypeId)(z:Nat)(xs ys:List AE):Nat->Nat->Option Bool
 |0,_=>some true
 | n+1,i=>
  match IN P e xs (i*z),IN P e ys (i*z)with
  |some a,some b=>
   match eq e a b with
   |some true=>L0 eq e z xs ys n (i+1)
   |some false=>some false
   |none=>none
  |_,_=>none
def Jc:Nat->TypeId->AE->AE->Option Bool
 |0,_,_,_=>none
 |d+1,t,x,y=>
  match P.underlying t,x,y with
  |some .bool,.bool a,.bool b=>some (a==b)
  |some (.int _),.int k a,.int k' b=>if k=k' then some (a==b)else none
  |some .string,.str a,.str b=>some (a==b)
  |some (.pointer _),.ptr none,.ptr b=>some b.isNone
  |some (.pointer _),.ptr (some _),.ptr none=>some false
  |some (.pointer _),.BL _,.ptr none=>some false
  |some (.map _ _),.map none,.map b=>some b.isNone
  |some (.map _ _),.map (some _),.map none=>some false
  |some (.func _ _ _),.nilFunc,.nilFunc=>some true
  |some (.func _ _ _),.nilFunc,.func _ _ _=>some false
  |some (.func _ _ _),.func _ _ _,.nilFunc=>some false
  |some (.struct fs),.agg xs,.agg ys=>if P.stoodInHeld t=true then none else eqFields P (Jc d) xs ys fs.toList
  |some (.array n e),.agg xs,.agg ys=>(Dn P e).bind λz=>L0 P (Jc d) e z xs ys n 0
  |_,_,_=>none
def XR:AE->Bool
 | .bool _| .ptr _| .slice _ _| .map _| .nilFunc| .func _ _ _| .Jd _ _| .BL _=>true
 |_=>false
def Ug(op:BinOp)(t:TypeId)(x y:AE):Option AE:=
 match x,y with
 | .int k a,.int k' b=>
  match op with
  | .shl| .shr=>Qz op k a b
  |_=>if k=k' then QX op k a b else none
 | .str a,.str b=>S0 op a b
 | .agg xs,.agg ys=>
  if P.eqGuardType P.depth t=true then none else
  match op with
  | .eql=>(Jc P 10000 t (.agg xs) (.agg ys)).map .bool
  | .neq=>(Jc P 10000 t (.agg xs) (.agg ys)).map λb=>.bool !b
  |_=>none
 | x,y=>
  if XR x=true then
   match op with
   | .eql=>(Jc P 10000 t x y).map .bool
   | .neq=>(Jc P 10000 t x y).map λb=>.bool !b
   |_=>none
  else none
def Zr:Operand->Bool
 | .const _=>true
 |_=>false
def aq(op:BinOp)(t:TypeId)(c:Bool):Option AE:=
 match P.underlying t with
 |some (.interface _)=>bif c then(match op with| .eql=>some (.bool true)| .neq=>some (.bool false)|_=>none)else none
 |_=>none
def VF(op:BinOp)(t:TypeId)(c:Bool)(x y:AE):Option AE:=
 match x,y with
 | .nilIface,.nilIface=>aq P op t c
 |x,y=>Ug P op t x y
def bx(op:UnOp)(x:AE):Option AE:=
 match op,x with
 | .neg,.int k n=>QX .sub k 0 n
 | .xor,.int k n=>QX .xor k (if k.signed then -1 else k.max) n
 | .not,.bool b=>some (.bool !b)
 |_,_=>none
def bytesOf:List AE->Option (List UInt8)
 |[]=>some []
 | .int .u8 n::r=>(bytesOf r).map (UInt8.ofNat n.toNat::·)
 |_=>none
def Xi(src dst:TypeId)(x:AE):Option AE:=
 match P.underlying src,P.underlying dst,x with
 |some _,some (.int k),.int _ n=>some (.int k (k.wrap n))
 |some _,some .string,.str s=>some (.str s)
 |some _,some .string,.int _ n=>some (.str (Utf8.encode n).data.toList)
 |_,_,_=>none
def Vx(src dst:TypeId)(x:AE):Option XU:=
 match P.underlying src,P.underlying dst,x with
 |some _,some (.slice e),.str s=>
  match P.underlying e,Dn P e with
  |some (.int .u8),some 1=>if s.length<=1099511627776 then some (λn=>.slice (some (n,0)) s.length,.cells (some e) 2 (s.map λb=>.int .u8 b.toNat))else none
  |_,_=>none
 |_,_,_=>none
def R7(ob:Option Dc)(src dst:TypeId)(x:AE):Option AE:=
 match P.underlying src,P.underlying dst,x with
 | some (.slice e),some .string,.slice r n=>
  match P.underlying e with
  |some (.int .u8)=>
   match r with
   |none=>some (.str [])
   |some (_,o)=>if n=0 then some (.str [])else(Dy ob o n).bind λcs=>(bytesOf cs).map .str
  |_=>none
 |some (.slice e),some .string,.Jd n cs=>
  match P.underlying e with
  |some (.int .u8)=>if cs.length=n then(bytesOf cs).map .str else none
  |_=>none
 |_,_,_=>none
def Lx(t:TypeId)(l c:AE):Option XU:=
 match P.underlying t,l,c with
 | some (.slice e),.int _ l,.int _ c=>
  match P.info? e with
  | some i=>
   match i.zero.map YC with
   | some z=>
    match z.cells?.map (·.map II)with
    | some zc=>
     if 0<=l/\l<=c/\c<=1099511627776/\i.bytes*c<=1099511627776/\zc.length=i.size/\zc.all AE.one=true then
      some (λn=>.slice (some (n,0)) l.toNat,.cells (some e) 2 (G2 zc c.toNat))
     else none
    |none=>none
   |none=>none
  |none=>none
 |_,_,_=>none
def Fg(n:Nat)(lo hi:Option AE):Option (Nat×Nat):=
 match hi with
 | some (.int _ u)=>
  if 0<=u/\u<=n then
   match lo with
   |some (.int _ l)=>if 0<=l/\l<=u then some (l.toNat,u.toNat)else none
   |some _=>none
   |none=>some (0,u.toNat)
  else none
 |some _=>none
 |none=>
  match lo with
  |some (.int _ l)=>if 0<=l/\l<=n then some (l.toNat,n)else none
  |some _=>none
  |none=>some (0,n)
def SS(t:TypeId)(x:AE)(lo hi:Option AE):Option AE:=
 match P.underlying t,x with
 |some .string,.str s=>(Fg s.length lo hi).map λ(l,u)=>.str ((s.drop l).take (u - l))
 |_,_=>none
def QJ(ob:Option Dc)(t:TypeId)(x:AE)(lo hi:Option AE):Option AE:=
 match P.underlying t,x with
 |some (.array n e),.ptr (some (id,o))=>
  match ob with
  |some (.cells none _ _)=>(Dn P e).bind λz=>(Fg n lo hi).map λ(l,u)=>.slice (some (id,o+l*z)) (u - l)
  |_=>none
 |some (.slice e),.slice none 0=>(Dn P e).bind λ_=>(Fg 0 lo hi).map λ_=>.slice none 0
 |some (.slice e),.Jd n cs=>(Dn P e).bind λz=>if cs.length=n*z then(Fg n lo hi).map λ(l,u)=>.Jd (u - l) ((cs.drop (l*z)).take ((u - l)*z))else none
 |some (.slice e),.slice (some (id,o)) n=>
  match ob,Dn P e with
  |some (.cells none _ _),some z=>(Fg n lo hi).map λ(l,u)=>.slice (some (id,o+l*z)) (u - l)
  |some (.cells (some e') _ _),some z=>if Dn P e'=some z then(Fg n lo hi).map λ(l,u)=>.slice (some (id,o+l*z)) (u - l)else none
  |_,_=>none
 |_,_=>none
def Nt(s:TypeId)(x:AE)(f:Nat):Option AE:=
 match P.underlying s,x with
 | some (.struct fs),.ptr (some (id,o))=>
  match fs[f]? with
  |some fd=>
   match Dn P fd.type with
   |some 0=>none
   |some _=>some (.ptr (some (id,o+fd.offset)))
   |none=>none
  |none=>none
 | some (.struct fs),.L1 g o=>
  match fs[f]? with
  |some fd=>
   match Dn P fd.type with
   |some 0=>none
   |some _=>some (.L1 g (o+fd.offset))
   |none=>none
  |none=>none
 | some (.struct fs),.BL cs=>
  match fs[f]? with
  |some fd=>
   match Dn P fd.type with
   |some 0=>none
   |some _=>some (.BL (cs.drop fd.offset))
   |none=>none
  |none=>none
 |_,_=>none
def U6(s:TypeId)(x:AE)(f:Nat):Option AE:=
 match P.underlying s,x with
 |some (.struct fs),.agg cs=>
  match fs[f]? with
  |some fd=>IN P fd.type cs fd.offset
  |none=>none
 |_,_=>none
def IC(t:TypeId)(x i:AE):Option AE:=
 match P.underlying t,x,i with
 |some (.array n e),.ptr (some (id,o)),.int _ i=>if 0<=i/\i<n then(Dn P e).map λz=>.ptr (some (id,o+i.toNat*z))else none
 |some (.slice e),.slice (some (id,o)) n,.int _ i=>if 0<=i/\i<n then(Dn P e).map λz=>.ptr (some (id,o+i.toNat*z))else none
 |some (.array n e),.L1 g o,.int _ i=>if 0<=i/\i<n then(Dn P e).map λz=>.L1 g (o+i.toNat*z)else none
 |some (.array n e),.BL cs,.int _ i=>if 0<=i/\i<n then(Dn P e).map λz=>.BL (cs.drop (i.toNat*z))else none
 |some (.slice e),.Jd n cs,.int _ i=>if 0<=i/\i<n then(Dn P e).bind λz=>if cs.length=n*z/\z≠0 then some (.BL ((cs.drop (i.toNat*z)).take z))else none else none
 |_,_,_=>none
def Sa(t:TypeId)(x i:AE):Option AE:=
 match P.underlying t,x,i with
 |some (.array n e),.agg cs,.int _ i=>if 0<=i/\i<n then(Dn P e).bind λz=>IN P e cs (i.toNat*z)else none
 |some .string,.str s,.int _ i=>if 0<=i then(s[i.toNat]?).map λb=>.int .u8 b.toNat else none
 |_,_,_=>none
def Du(h:AS)(z n:Nat):AE->Option (List AE)
 | .slice (some (id,o)) _=>if n=0 then some []else Dy (h.get id) o (n*z)
 | .slice none _=>if n=0 then some []else none
 | .str s=>if z=1 then some ((s.take n).map λb=>.int .u8 b.toNat)else none
 | .Jd n' cs=>if n<=n'/\cs.length=n'*z then some (cs.take (n*z))else none
 |_=>none
def RP:AE->Option Nat
 | .slice _ n=>some n
 | .Jd n _=>some n
 | .str s=>some s.length
 |_=>none
def Kw:TypeDesc->Bool
 | .int _=>false
 |_=>true
def appendCore(g:Gd)(h:AS)(e:TypeId)(i:TypeInfo)(r:Option (Nat×Nat))(sl n:Nat)(x:AE):Option (AE×AS):=
 if n=0 then some (.slice r sl,h)
 else if i.size≠0/\sl+n<=1099511627776/\(sl+n)*i.bytes<=1099511627776/\i.zero.map (·.cells.size)=some i.size then
  match(Du h i.size n x).map (·.map II),Du h i.size sl (.slice r sl)with
  | some new,some old=>
   if (old++new).all AE.one=true then
    match r with
    |none=>some (.slice (some (h.size,0)) (sl+n),h.push (.cells (some e) 2 (old++new)))
    | some (id,_)=>
     match h.get id with
     |some (.cells (some e') 2 _)=>
      if g.may id=true/\e'=e then some (.slice (some (h.size,0)) (sl+n),(h.set id (.cells (some e') 0 [])).push (.cells (some e) 2 (old++new)))
      else none
     |_=>none
   else none
  |_,_=>none
 else none
def N7(g:Gd)(h:AS)(ts:Array TypeId)(s x:AE):Option (AE×AS):=
 match ts[0]?,ts[1]?,s,RP x with
 | some st,some xt,.slice r sl,some n=>
  match P.underlying st,P.underlying xt with
  |some (.slice e),some d=>
   match P.info? e with
   |some i=>if Kw d=true then appendCore g h e i r sl n x else none
   |none=>none
  |_,_=>none
 |_,_,_,_=>none
def VQ(g:Gd)(h:AS)(ts:Array TypeId)(d x:AE):Option (AE×AS):=
 match ts[0]?,d,RP x with
 | some dt,.slice r dl,some sl=>
  match P.underlying dt with
  | some (.slice e)=>
   match Dn P e with
   |some z=>
    match Du h z (min sl dl) x,r with
    |some new,some (id,o)=>if min sl dl=0 then some (.int .i64 0,h)else(Ef g h id o new).map λh'=>(.int .i64 (min sl dl:Nat),h')
    |some _,none=>if min sl dl=0 then some (.int .i64 0,h)else none
    |none,_=>none
   |none=>none
  |_=>none
 |_,_,_=>none
def ZV(ts:Array TypeId)(x:AE):Option AE:=
 match ts[0]? with
 |none=>none
 |some t=>
  match P.underlying t,x with
  |some .string,.str s=>some (.int .i64 s.length)
  |some (.array n _),_=>some (.int .i64 n)
  |some (.slice _),.slice _ n=>some (.int .i64 n)
  |some (.slice _),.Jd n _=>some (.int .i64 n)
  |_,_=>none
def Zn(ob:Option Dc)(ts:Array TypeId)(x:AE):Option AE:=
 match ts[0]? with
 |none=>none
 | some t=>
  match P.underlying t,x with
  |some (.map _ _),.map none=>some (.int .i64 0)
  |some (.map _ _),.map (some _)=>
   match ob with
   |some (.map st es)=>if st≠0 then some (.int .i64 es.length)else none
   |_=>none
  |some (.chan _ _),.chan (some _)=>
   match ob with
   |some (.chan _ buf)=>some (.int .i64 buf.length)
   |_=>none
  |_,_=>none
def M6(mx:Bool):AE->List AE->Option AE
 |v,[]=>some v
 | .int k a,.int k' b::r=>if k=k' then M6 mx (.int k (if mx then(if b>a then b else a)else(if b<a then b else a))) r else none
 |_,_=>none
def Eo(t:TypeId)(k:AE):List (AE×AE)->Nat->Option (Option (Nat×AE))
 |[],_=>some none
 |(k',v)::es,i=>
  match Jc P 10000 t k k' with
  |some true=>some (some (i,v))
  |some false=>Eo t k es (i+1)
  |none=>none
def HM:Nat->TypeId->AE->Bool
 |0,_,_=>false
 |d+1,t,v=>
  match P.underlying t,v with
  |some (.int _),.int _ _=>true
  |some .string,.str _=>true
  |some .bool,.bool _=>true
  |some (.struct fs),.agg cs=>fs.toList.all (λf=>f.name !="_"&&(match IN P f.type cs f.offset with|some x=>HM d f.type x|none=>false))
  |some (.array n e),.agg cs=>(match Dn P e with|some z=>(List.range n).all (λi=>match IN P e cs (i*z)with|some x=>HM d e x|none=>false)|none=>false)
  |_,_=>false
def M3(ob:Option Dc)(t:TypeId)(x k:AE)(ok:Bool):Option AE:=
 match P.underlying t,x with
 | some (.map kt et),.map r=>
  if HM P 20 kt k=true then
   match(match r with|none=>some []|some _=>match ob with|some (.map st es)=>if st≠0 then some es else none|_=>none)with
   |some es=>
    match Eo P kt k es 0 with
    |some (some (_,v))=>some (if ok then .tuple [v,.bool true]else v)
    |some none=>(I2 P et).map λz=>if ok then .tuple [z,.bool false]else z
    |none=>none
   |none=>none
  else none
 |_,_=>none
def Oa:AE->AE->Bool
 | .int k a,.int k' b=>decide (k=k')&&a==b
 | .str a,.str b=>a==b
 | .bool a,.bool b=>a==b
 |_,_=>false
def MB:AE->AE->Bool
 | .agg a,.agg b=>a.length==b.length&&(a.zip b).all λp=>Oa p.1 p.2
 |x,y=>Oa x y
def Gy(g:Gd)(h:AS):AE->Option (AE×AS)
 | .slice none 0=>some (.Jd 0 [],h)
 | .slice (some (id,0)) n=>
  bif Nat.beq n 0 then some (.Jd 0 [],h)else
  match h.get id with
  |some (.cells gr 2 cs)=>bif g.may id then some (.Jd n cs,h.set id (.cells gr 0 cs))else none
  |some (.cells _ 0 (c::cs))=>some (.Jd n (c::cs),h)
  |_=>none
 |v=>some (v,h)
def J0(g:Gd)(h:AS)(t:TypeId)(m k v:AE):Option AS:=
 match P.underlying t,m with
 | some (.map kt _),.map (some id)=>
  if HM P 20 kt k=true/\g.may id=true then
   match h.get id with
   | some (.map 2 es)=>
    match Eo P kt k es 0 with
    |some (some (i,_))=>
     match es[i]? with
     |some (k',_)=>if MB k' k=true then some (h.set id (.map 2 (es.set i (k,v))))else none
     |none=>none
    |some none=>some (h.set id (.map 2 (es++[(k,v)])))
    |none=>none
   |_=>none
  else none
 |_,_=>none
def Ho(g:Gd)(h:AS)(t:TypeId)(m k v:AE):Option AS:=(Gy g h v).bind λr=>J0 P g r.2 t m k r.1
def M4(g:Gd)(h:AS)(ts:Array TypeId)(m k:AE):Option AS:=
 match ts[0]? with
 |none=>none
 | some t=>
  match P.underlying t,m with
  | some (.map kt _),.map (some id)=>
   if HM P 20 kt k=true/\g.may id=true then
    match h.get id with
    |some (.map 2 es)=>
     match Eo P kt k es 0 with
     |some (some (i,_))=>some (h.set id (.map 2 (es.eraseIdx i)))
     |some none=>some h
     |none=>none
    |_=>none
   else none
  |_,_=>none
def Br:Op->Nat
 | .move _| .assign _| .pick .. | .build .. | .nilCheck _| .binOp .. | .unOp .. | .makeFunc .. | .fieldAddr .. | .field .. | .indexAddr .. | .index .. | .extract .. =>0
 | .slice t .. =>match P.underlying t with|some .string=>0|_=>1
 | .convert s d _=>
  match P.underlying s,P.underlying d with
  |some (.slice _),some .string=>1
  |some (.slice _),some (.slice _)=>3
  |_,some (.slice _)=>2
  |_,_=>0
 | .load .. | .lookup .. =>1
 | .alloc _| .box .. | .buildSlice .. | .makeMap .. | .makeSlice .. | .range .. | .makeChan .. =>2
 | .call {callee:=.builtin .len,argTypes:=ts,..}=>
  match ts[0]? with
  |some t=>match P.underlying t with|some (.map _ _)=>1|some (.chan _ _)=>1|_=>0
  |none=>0
 | .call {callee:=.builtin .min,..}| .call {callee:=.builtin .max,..}=>0
 |_=>3
def KZ(fr:Fr):Op->Option AE
 | .move x| .assign x=>some (ev fr x)
 | .pick c a b=>
  match ev fr c with
  | .bool b'=>some (bif b' then ev fr a else ev fr b)
  |_=>none
 | .build t parts=>Um P t (parts.toList.map λ(i,x)=>(i,ev fr x))
 | .nilCheck x=>
  match ev fr x with
  | .ptr (some r)=>some (.ptr (some r))
  | .L1 g o=>some (.L1 g o)
  | .BL cs=>some (.BL cs)
  | .func (.func f) a b=>some (.func (.func f) a b)
  |_=>none
 | .binOp op t x y _=>VF P op t (Zr x||Zr y) (ev fr x) (ev fr y)
 | .unOp op _ x=>bx op (ev fr x)
 | .convert s d x=>Xi P s d (ev fr x)
 | .makeFunc fn first cap=>some (.func fn (first.toList.map (ev fr)) (cap.toList.map (ev fr)))
 | .slice t x lo hi none=>SS P t (ev fr x) (lo.map (ev fr)) (hi.map (ev fr))
 | .fieldAddr s x f=>Nt P s (ev fr x) f
 | .field s x f=>U6 P s (ev fr x) f
 | .indexAddr t x i=>IC P t (ev fr x) (ev fr i)
 | .index t x i=>Sa P t (ev fr x) (ev fr i)
 | .extract x i=>
  match ev fr x with
  | .tuple vs=>vs[i]?
  |_=>none
 | .call {callee:=.builtin b,args:=as,argTypes:=ts}=>
  match b,as.toList.map (ev fr)with
  | .len,[x]=>ZV P ts x
  | .min,x::r=>M6 false x r
  | .max,x::r=>M6 true x r
  |_,_=>none
 |_=>none
def Gb:AE->Option Nat
 | .ptr (some (id,_))=>some id
 | .slice (some (id,_)) _=>some id
 | .map (some id)=>some id
 | .chan (some id)=>some id
 |_=>none
def Es(fr:Fr):Op->Option Nat
 | .load _ x=>Gb (ev fr x)
 | .slice _ x _ _ _=>Gb (ev fr x)
 | .convert _ _ x=>Gb (ev fr x)
 | .lookup _ x _ _=>Gb (ev fr x)
 | .call {args:=as,..}=>
  match as.toList with
  |[x]=>Gb (ev fr x)
  |_=>none
 |_=>none
def MJ(G:Nat->Option (List AE))(fr:Fr)(ob:Option Dc):Op->Option AE
 | .load t a=>
  match ev fr a with
  | .ptr (some (_,o))=>Im P ob t o
  | .L1 g o=>Im P ((G g).map λcs=>.cells none 1 cs) t o
  | .BL cs=>Im P (some (.cells none 1 cs)) t 0
  |_=>none
 | .slice t x lo hi none=>QJ P ob t (ev fr x) (lo.map (ev fr)) (hi.map (ev fr))
 | .convert s d x=>R7 P ob s d (ev fr x)
 | .lookup t x k ok=>M3 P ob t (ev fr x) (ev fr k) ok
 | .call {callee:=.builtin .len,args:=as,argTypes:=ts}=>
  match as.toList with
  |[x]=>Zn P ob ts (ev fr x)
  |_=>none
 |_=>none
def RC(fr:Fr):Op->Option XU
 | .alloc e=>(I2 P e).bind P1
 | .box _ x=>P1 (ev fr x)
 | .buildSlice t len parts=>Ml P t len (parts.toList.map λ(i,x)=>(i,ev fr x))
 | .convert s d x=>Vx P s d (ev fr x)
 | .makeMap _ none=>some (λn=>.map (some n),.map 2 [])
 | .makeSlice t l c=>Lx P t (ev fr l) (ev fr c)
 | .makeChan t n=>
  match P.underlying t,ev fr n with
  |some (.chan _ e),.int _ n=>
   match P.info? e with
   |some i=>if 0<=n/\n<=1099511627776/\i.bytes*n<=1099511627776 then some (λk=>.chan (some k),.chan n.toNat [])else none
   |none=>none
  |_,_=>none
 | .range t x=>
  match P.underlying t,ev fr x with
  |some .string,.str s=>some (λn=>.ptr (some (n,0)),.iter s 0)
  |_,_=>none
 |_=>none
def VO(g:Gd)(h:AS)(s d:TypeId)(x:AE):Option (AE×AS):=
 match P.underlying s,P.underlying d,x with
 |some (.slice _),some (.slice e),.slice (some (id,o)) n=>
  match P.underlying e,h.get id with
  |some (.int .u8),some (.cells gr 2 cs)=>bif Nat.beq s d&&(g.may id&& !(Nat.beq n 0))then some (.slice (some (id,o)) n,h.set id (.cells gr 2 cs))else none
  |_,_=>none
 |_,_,_=>none
def ML(g:Gd)(h:AS)(fr:Fr):Op->Option (AE×AS)
 | .convert s d x=>VO P g h s d (ev fr x)
 | .store t a x=>
  match ev fr a with
  | .ptr (some (id,o))=>(MY P g h t id o (ev fr x)).map (.tuple [],·)
  |_=>none
 | .mapUpdate t m k v| .insert t m k v=>(Ho P g h t (ev fr m) (ev fr k) (ev fr v)).map (.tuple [],·)
 | .next it true=>
  match ev fr it with
  | .ptr (some (id,0))=>
   match h.get id with
   | some (.iter s pos)=>
    if g.may id=true then
     if pos<s.length then
      some (.tuple [.bool true,.int .i64 pos,.int .i32 (Utf8.decode ⟨⟨s⟩⟩ pos).1],h.set id (.iter s (pos+(Utf8.decode ⟨⟨s⟩⟩ pos).2)))
     else some (.tuple [.bool false],h)
    else none
   |_=>none
  |_=>none
 | .call {callee:=.builtin b,args:=as,argTypes:=ts}=>
  match b,as.toList.map (ev fr)with
  | .append,[s,x]=>N7 P g h ts s x
  | .copy,[d,x]=>VQ P g h ts d x
  | .delete,[m,k]=>(M4 P g h ts m k).map (.tuple [],·)
  |_,_=>none
 |_=>none
def J7(G:Nat->Option (List AE))(g:Gd)(h:AS)(fr:Fr)(op:Op):Option (AE×AS):=
 match Br P op with
 |0=>(KZ P fr op).map (·,h)
 | 1=>
  match Es fr op with
  |none=>(MJ P G fr none op).map (·,h)
  |some id=>
   match h.get id with
   |some ob=>(MJ P G fr (some ob) op).map (·,h)
   |none=>none
 |2=>(RC P fr op).map λx=>(x.1 h.size,h.push x.2)
 |_=>ML P g h fr op
end
structure J8 where
 P:Program
 kind:Nat->Nat
 NC:Nat->Nat->List (Nat×List Nat)
 ext:Nat->Gd->AS->List AE->Option (AE×AS)
 GZ:Nat->Option (List AE):=λ_=>none
 bM:FuncId->Code->Code->Bool:=λ_ _ _=>false
 still:FuncId->List Bool:=λ_=>[]
inductive HV where
 |normal
 |exit (id:Nat)
 |ret
structure Self where
 call:Gd->AS->FuncId->List AE->Option (AE×AS)
 loop:Gd->FuncId->Code->Fr->AS->Option (HV×Fr×AS)
 round:Gd->AS->Nat->List AE->Option (AE×AS)
section
variable (C:J8) (S:Self)
def CC(g:Gd)(h:AS)(fr:Fr)(op:Op):Option (AE×AS):=
 match op with
 | .call {callee:=.value x,args:=as,..}=>
  match ev fr x with
  | .func (.func f) first cap=>S.call g h f (first++(as.toList.map (ev fr)++cap))
  | .Z9 l=>S.round g h l (as.toList.map (ev fr))
  |_=>none
 |op=>J7 C.P C.GZ g h fr op
def Dm(ops:Array Oper)(fr:Fr)(o:Oper):Option Bool:=
 match o.guard with
 |none=>some true
 | some (j,want)=>
  match(ops[j]?).bind (·.dst)with
  |none=>some false
  |some d=>
   match nth fr d with
   | .bool b=>some (b==want)
   | .undef=>none
   |_=>some false
def Ia(g:Gd)(ops:Array Oper):List Oper->Fr->AS->Option (Fr×AS)
 |[],fr,h=>some (fr,h)
 | o::rest,fr,h=>
  match Dm ops fr o with
  |some true=>
   match CC C S g h fr o.op with
   |some (v,h')=>Ia g ops rest (put fr o.dst v) h'
   |none=>none
  |some false=>Ia g ops rest (put fr o.dst (.tuple [])) h
  |none=>none
def Je(tch:List (Nat×Nat))(U:List Nat):List Nat:=tch.filterMap λ(i,id)=>bif U.any (Nat.beq i)then some id else none
def H9(P:Program)(h:AS)(fr:Fr)(i:Nat)(op:Op)(tch:List (Nat×Nat)):List (Nat×Nat):=
 match Br P op with
 |1=>match Es fr op with|some id=>(i,id)::tch|none=>tch
 |2=>(i,h.size)::tch
 |_=>tch
def R0:AE->AE->Bool
 | .ptr (some (a,b)),.ptr (some (c,d))=>Nat.beq a c&&Nat.beq b d
 | .int k a,.int k' b=>decide (k=k')&&decide (a=b)
 | .bool a,.bool b=>a==b
 | .str a,.str b=>decide (a=b)
 | .Jd 0 [],.Jd 0 []=>true
 |_,_=>false
def Rn(ops:Array Oper)(fr:Fr)(h:AS)(i:Nat):Bool:=
 match ops[i]? with
 | some o=>
  match Dm ops fr o with
  |some false=>true
  | some true=>
   match o.dst,Es fr o.op with
   | some d,some id=>
    Nat.blt d fr.length&&(match h.get id with
     |some ob=>(match MJ C.P C.GZ fr (some ob) o.op with|some v=>R0 v (nth fr d)|none=>false)
     |none=>false)
   |_,_=>false
  |none=>false
 |none=>false
def Mr(ops:Array Oper)(U:List Nat)(fr:Fr)(h:AS):Bool:=U.all λu=>Nat.blt u 10000||Rn C ops fr h (u - 10000)
def Dx(g:Gd)(ops:Array Oper):List (Nat×List Nat)->List (Nat×Nat)->Fr->AS->Option (Fr×AS)
 |[],_,fr,h=>some (fr,h)
 | (i,U)::rest,tch,fr,h=>
  match ops[i]? with
  |none=>none
  | some o=>
   match Dm ops fr o with
   |some true=>
    match CC C S ⟨g.floor,Je tch U++g.Bb⟩ h fr o.op with
    |some (v,h')=>bif Mr C ops U (put fr o.dst v) h' then Dx g ops rest (H9 C.P h fr i o.op tch) (put fr o.dst v) h' else none
    |none=>none
   |some false=>Dx g ops rest tch (put fr o.dst (.tuple [])) h
   |none=>none
def CV(f:FuncId)(g:Gd):Code->Fr->AS->Option (HV×Fr×AS)
 | .skip,fr,h=>some (.normal,fr,h)
 | .label _,fr,h=>some (.normal,fr,h)
 | .region id ops draw,fr,h=>
  match(bif draw then Dx C S g ops (C.NC f id) [] fr h else Ia C S g ops ops.toList fr h)with
  |some (fr',h')=>some (.normal,fr',h')
  |none=>none
 | .seq a b,fr,h=>
  match CV f g a fr h with
  |some (.normal,fr',h')=>CV f g b fr' h'
  |r=>r
 | .cond c a b,fr,h=>
  match ev fr c with
  | .bool true=>CV f g a fr h
  | .bool false=>CV f g b fr h
  |_=>none
 | .block id c,fr,h=>
  match CV f g c fr h with
  |some (.exit i,fr',h')=>bif Nat.beq i id then some (.normal,fr',h')else some (.exit i,fr',h')
  |r=>r
 | .loop c,fr,h=>
  match CV f g c fr h with
  |some (.normal,fr',h')=>S.loop g f c fr' h'
  |r=>r
 | .scope c,fr,h=>CV f g c fr h
 | .exit id,fr,h=>some (.exit id,fr,h)
 | .ret,fr,h=>some (.ret,fr,h)
 |_,_,_=>none
def Xk(_:J8)(_:Self)(_:Gd)(_:AS)(_:Nat)(_:List AE):Option (AE×AS):=none
def JF(P:Program)(fr:Fr)(h:AS):ResultVar->Option AE
 | .tmp t=>some (nth fr t)
 | .cell a t=>
  match nth fr a with
  | .ptr (some (id,o))=>Im P (h.get id) t o
  |_=>none
def KJ(P:Program)(fn:Func)(fr:Fr)(h:AS):Option AE:=
 match fn.results.toList.mapM (JF P fr h)with
 |some [v]=>some v
 |some vs=>some (.tuple vs)
 |none=>none
def KT:AE->Bool
 | .bool _| .int _ _| .str _| .ptr none| .slice none _| .map none| .chan none| .nilFunc| .nilIface=>true
 |_=>false
def QP:AE->Bool
 | .agg cs=>cs.all KT
 |v=>KT v
def L8(g:Gd)(h:AS)(f:FuncId)(args:List AE):Option (AE×AS):=
 match C.P.funcs[f]? with
 |none=>none
 | some fn=>
  match fn.body with
  |none=>none
  |some c=>
   match CV C S f g c (args++List.replicate (fn.ntmps - args.length) (.tuple [])) h with
   |some (.normal,fr,h')=>(KJ C.P fn fr h').map (·,h')
   |some (.ret,fr,h')=>(KJ C.P fn fr h').map (·,h')
   |_=>none
def KC(f:AS->AE->Option (AE×AS)):List AE->AS->Option (List AE×AS)
 |[],h=>some ([],h)
 |v::vs,h=>
  match f h v with
  |some (v',h1)=>(KC f vs h1).map λr=>(v'::r.1,r.2)
  |none=>none
def O2(g:Gd)(h:AS):AE->Option (AE×AS)
 | .agg cs=>(KC (Gy g) cs h).map λr=>(.agg r.1,r.2)
 |v=>Gy g h v
def RO(g:Gd)(h:AS):AE->Option (AE×AS)
 | .tuple vs=>(KC (O2 g) vs h).map λr=>(.tuple r.1,r.2)
 |v=>O2 g h v
def Mt(g:Gd)(h:AS):AE->Option (AE×AS)
 | .ptr (some (id,0))=>
  match h.get id with
  |some (.cells none 2 cs)=>bif g.may id then(KC (Gy g) cs (h.set id (.cells none 0 cs))).map λr=>(.BL r.1,r.2)else none
  |_=>none
 |v=>O2 g h v
def Tj(g:Gd)(h:AS):AE->Option (AE×AS)
 | .tuple vs=>(KC (Mt g) vs h).map λr=>(.tuple r.1,r.2)
 |v=>Mt g h v
def Xw:AE->AE
 | .agg cs=>.agg (cs.map II)
 |v=>II v
def Bf:List Bool->List AE->List AE
 |true::bs,v::vs=>Xw v::Bf bs vs
 |false::bs,v::vs=>v::Bf bs vs
 |_,vs=>vs
def Ki(g:Gd)(h:AS)(f:FuncId)(args:List AE):Option (AE×AS):=
 match C.kind f with
 |1=>L8 C S g h f (Bf (C.still f) args)
 |3=>C.ext f g h args
 |7=>
  match L8 C S g h f (Bf (C.still f) args)with
  |some (v,h')=>RO g h' v
  |none=>none
 |9=>
  match L8 C S g h f (Bf (C.still f) args)with
  |some (v,h')=>Tj g h' v
  |none=>none
 |_=>none
end
def FE(C:J8):Nat->Self
 |0=>⟨λ_ _ _ _=>none,λ_ _ _ _ _=>none,λ_ _ _ _=>none⟩
 |n+1=>⟨Ki C (FE C n),λg f c=>CV C (FE C n) f g (.loop c),Xk C (FE C n)⟩
def bA(C:J8)(n:Nat)(g:Gd)(h:AS)(f:FuncId)(args:List AE):Option (AE×AS):=(FE C n).call g h f args
end Go.Av
