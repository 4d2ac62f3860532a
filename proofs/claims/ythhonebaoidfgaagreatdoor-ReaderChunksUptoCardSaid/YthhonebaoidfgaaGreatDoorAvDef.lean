/-
 A part.
-/
import Derived.KernelRfl
import Derived.Calls
set_option linter.unusedSimpArgs false
namespace Go.Av
set_option linter.defProp false
def za:=@Option.bind_some
def zb:=@Option.some.injEq
def zd:=@Nat.le_of_ble_eq_true
def ze:=@Prod.mk.injEq
def zf:=@Bool.and_eq_true
def zg:=@decide_eq_true
def zh:=@Option.map_some
def zi:=@List.length_append
def zj:=@if_neg
def zk:=@Option.map_eq_some_iff
def zl:=@if_pos
def zm:=@decide_eq_false
def zn:=@Array.getD_eq_getD_getElem?
def zo:=@List.getD_eq_getElem?_getD
def zr:=@List.all_eq_true
def zt:=@Nat.eq_of_beq_eq_true
def zu:=@List.mem_append
def zw:=@Nat.le_refl
def zx:=@List.eq_nil_of_length_eq_zero
def zy:=@decide_eq_true_eq
def zA:=@List.length_take
def zB:=@List.take_of_length_le
def zC:=@List.append_assoc
def zD:=@decide_eq_false_iff_not
def zF:=@List.mem_cons
def zG:=@List.length_cons
def zH:=@Bool.not_eq_true'
def zI:=@List.take_append_drop
def zJ:=@Option.some.inj
def zK:=@List.map_cons
def zL:=@cond_true
def zM:=@Bool.or_eq_false_iff
def zN:=@List.mem_of_getElem?
def zO:=@List.mem_range
def zP:=@List.getElem_mem
def zQ:=@beq_self_eq_true
def zR:=@List.append_nil
def zS:=@Int.toNat_natCast
def zT:=@List.drop_eq_getElem_cons
def zU:=@List.mem_singleton
def zV:=@Option.getD_some
def zW:=@List.length_replicate
def zX:=@Nat.lt_of_lt_of_le
def zY:=@List.length_nil
def zZ:=@List.mem_map
def z8:=@Nat.le_trans
def ya:=@List.all_cons
def yb:=@List.not_mem_nil
def yc:=@List.length_drop
def yd:=@List.nodup_append
def ye:=@List.nil_append
def yf:=@Nat.zero_le
def yg:=@Bool.not_true
def yh:=@Nat.lt_or_ge
def yi:=@List.flatten_cons
def yj:=@List.mem_cons_of_mem
def yl:=@Nat.beq_refl
def ym:=@List.pairwise_cons
def yn:=@List.drop_zero
def yo:=@List.length_map
def yp:=@Bool.or_eq_true
def yq:=@Nat.le_max_right
def yr:=@List.take_length
def yu:=@beq_eq_false_iff_ne
def yv:=@Bool.and_eq_false_iff
def yw:=@Nat.le_succ_of_le
def yx:=@List.mem_filter
def yy:=@Nat.le_max_left
def yz:=@Nat.zero_add
def yA:=@Array.eq_empty_of_size_eq_zero
def yB:=@Array.length_toList
def yC:=@Nat.add_mul
def yD:=@List.flatMap_cons
def yE:=@Bool.not_false
def yF:=@Bool.not_eq_true
def yG:=@Nat.add_assoc
def yH:=@Nat.blt_eq
def yI:=@List.drop_of_length_le
def yJ:=@Int.toNat_of_nonneg
def yK:=@List.length_pos_iff
def yL:=@List.cons_append
def yM:=@Bool.false_eq_true
def yN:=@beq_iff_eq
def yO:=@cond_false
def yP:=@Bool.not_eq_false'
def yQ:=@Nat.add_zero
def yR:=@List.nodup_cons
def yS:=@List.getElem_of_mem
def yT:=@Nat.pow_succ
def yU:=@List.mem_flatMap
def yV:=@List.set_eq_take_append_cons_drop
def yW:=@List.length_set
def yX:=@Bool.false_or
def yY:=@Bool.or_false
def yZ:=@Bool.and_self
def y6:=@List.filterMap_cons_none
def y7:=@List.filterMap_cons_some
def y8:=@Bool.true_and
def y9:=@List.drop_append_of_le_length
def qa:=@Nat.eq_zero_or_pos
def qb:=@List.drop_eq_nil_of_le
def qc:=@List.map_append
def qd:=@List.foldl_cons
def qe:=@List.all_append
def qf:=@List.length_singleton
def qg:=@List.drop_length_add_append
def qh:=@List.take_length_add_append
def qi:=@List.mem_of_mem_take
def qj:=@Nat.mul_le_mul_right
def qk:=@List.replicate_succ'
def ql:=@Int.tmod_eq_emod_of_nonneg
def qm:=@List.any_eq_true
def qn:=@List.drop_succ_cons
def qo:=@List.take_succ_cons
def qp:=@Bool.and_true
def qq:=@Int.natCast_add
def qr:=@List.drop_drop
def qs:=@true_and
def qt:=@List.all_nil
def qu:=@Bool.false_and
def qv:=@List.take_succ_eq_append_getElem
def qw:=@List.singleton_append
def qx:=@Nat.le_of_not_lt
def qy:=@Nat.one_mul
def qz:=@List.mem_iff_getElem
def qA:=@List.take_append_of_le_length
def qB:=@Nat.mul_one
def qC:=@Nat.min_eq_left
def qD:=@List.perm_append_comm_assoc
def qE:=@List.take_zero
def qF:=@List.mem_filterMap
def qG:=@Nat.lt_or_gt_of_ne
def qH:=@Int.tdiv_eq_ediv_of_nonneg
def qI:=@List.filterMap_eq_nil_iff
def qJ:=@Option.isNone_iff_eq_none
def qK:=@Array.toList_push
def qL:=@List.pairwise_map
def qM:=@List.foldl_append
def qN:=@Option.isSome_iff_exists
def qO:=@Array.toList_map
def qP:=@Array.all_toList
def qQ:=@List.length_eq_zero_iff
def qR:=@List.flatten_nil
def qT:=@Int.not_lt
def qU:=@Nat.mul_comm
def qV:=@List.map_map
def qW:=@Nat.div_div_eq_div_mul
def qX:=@Nat.mul_eq_zero
def qY:=@List.cons.injEq
def qZ:=@Bool.eq_iff_iff
def q9:=@List.mem_iff_getElem?
def xa:=@List.mem_of_mem_drop
def xb:=@List.take_left
def xc:=@List.mapM_cons
def xd:=@Int.sub_sub
def xe:=@Nat.pow_le_pow_right
def xf:=@List.mem_map_of_mem
def xg:=@List.le_trans
def xh:=@Array.forIn_toList
def xi:=@bne_iff_ne
def xj:=@Nat.lt_trichotomy
def xk:=@Nat.add_comm
def xl:=@Bool.or_true
def xm:=@Bool.not_eq_false
def xn:=@Bool.not_not
def xo:=@List.nodup_range
def xp:=@List.drop_append
def xq:=@List.drop_length
def xr:=@Int.le_refl
def xu:=@List.forIn_cons
def xv:=@List.any_append
def xw:=@Array.toList_setIfInBounds
def xx:=@Nat.mod_lt
def xy:=@and_true
def xz:=@List.nodup_nil
def xA:=@List.take_take
def xB:=@Bool.and_false
def xC:=@List.extract_eq_take_drop
def xD:=@List.pairwise_iff_getElem
def xE:=@List.getElem_append_right
def xF:=@Nat.mul_assoc
def xG:=@List.dropLast_cons_cons
def xH:=@Option.bind_eq_some_iff
def xI:=@Int.eq_ofNat_of_zero_le
def xJ:=@List.filter_eq_nil_iff
def xK:=@List.map_nil
def xL:=@Nat.zero_mul
def xM:=@List.length_filter_le
def xN:=@List.contains_iff_mem
inductive AD where
 |undef
 |bool (b:Bool)
 |int (k:IntKind) (n:Int)
 |str (s:List UInt8)
 |ptr (r:Option (Nat×Nat))
 |LV (g o:Nat)
 |slice (r:Option (Nat×Nat)) (len:Nat)
 |map (r:Option Nat)
 |chan (r:Option Nat)
 |func (fn:Fn) (first captured:List AD)
 |nilFunc
 |iface (t:TypeId) (v:AD)
 |nilIface
 |agg (cs:List AD)
 |tuple (vs:List AD)
 |Im (n:Nat) (cs:List AD)
 |Aw (cs:List AD)
 |eP (l:Nat)
 deriving Inhabited
inductive Cs where
 |cells (grow:Option TypeId) (st:Nat) (cs:List AD)
 |map (st:Nat) (es:List (AD×AD))
 |iter (s:List UInt8) (pos:Nat)
 |loop (st:Nat) (pend:Option Code) (f:FuncId) (fr:List AD) (ps:List Tmp) (a b:Code)
 |chan (cap:Nat) (buf:List AD)
 deriving Inhabited
inductive Tr(α:Type) where
 |leaf
 |node (l:Tr α) (v:Option α) (r:Tr α)
def Tr.get{α:Type}:Tr α->Nat->Option α
 | .leaf,_=>none
 | .node l v r,i=>bif Nat.beq i 0 then v else bif Nat.beq (i%2) 1 then l.get (i / 2)else r.get (i / 2 - 1)
def Tr.set{α:Type}:Nat->Tr α->Nat->α->Tr α
 |0,t,_,_=>t
 |f+1,.leaf,i,x=>bif Nat.beq i 0 then .node .leaf (some x) .leaf else bif Nat.beq (i%2) 1 then .node (Tr.set f .leaf (i / 2) x) none .leaf else .node .leaf none (Tr.set f .leaf (i / 2 - 1) x)
 |f+1,.node l v r,i,x=>bif Nat.beq i 0 then .node l (some x) r else bif Nat.beq (i%2) 1 then .node (Tr.set f l (i / 2) x) v r else .node l v (Tr.set f r (i / 2 - 1) x)
structure AF where
 size:Nat
 tr:Tr Cs
def AF.get(h:AF)(i:Nat):Option Cs:=bif Nat.blt i h.size then h.tr.get i else none
def AF.set(h:AF)(i:Nat)(o:Cs):AF:=⟨h.size,Tr.set (i+1) h.tr i o⟩
def AF.push(h:AF)(o:Cs):AF:=⟨h.size+1,Tr.set (h.size+1) h.tr h.size o⟩
structure Gd where
 floor:Nat
 BW:List Nat
def Gd.may(g:Gd)(id:Nat):Bool:=Nat.ble g.floor id&& !(g.BW.any (Nat.beq id))
abbrev Fr:=List AD
def nth:List AD->Nat->AD
 |[],_=>.tuple []
 |a::_,0=>a
 |_::l,i+1=>nth l i
def put(fr:Fr)(dst:Option Tmp)(v:AD):Fr:=
 match dst with
 |some d=>fr.set d v
 |none=>fr
def AD.one:AD->Bool
 | .undef| .agg _| .tuple _=>false
 |_=>true
def AD.cells?:AD->Option (List AD)
 | .undef| .tuple _=>none
 | .agg cs=>some cs
 |v=>some [v]
def QT:Value->AD
 | .bool b=>.bool b
 | .int k n=>.int k n
 | .string s=>.str s.data.toList
 | .pointer none=>.ptr none
 | .slice none 0 0=>.slice none 0
 | .map none=>.map none
 | .chan none=>.chan none
 | .nilFunc=>.nilFunc
 | .nilIface=>.nilIface
 |_=>.undef
def dm:Value->AD
 | .agg cs=>.agg (cs.toList.map QT)
 | .tuple vs=>.tuple (vs.toList.map QT)
 |v=>QT v
def ev(fr:Fr):Operand->AD
 | .tmp t=>nth fr t
 | .const v=>dm v
 | .global g=>.LV g 0
 | .func f=>.func (.func f) [] []
def FY(cs:List AD)(o:Nat)(new:List AD):List AD:=cs.take o++(new++cs.drop (o+new.length))
section
variable (P:Program)
def DK(t:TypeId):Option Nat:=(P.info? t).map (·.size)
def La(t:TypeId):Option Bool:=
 match P.underlying t with
 |some (.struct _)|some (.array _ _)=>some true
 |some _=>some false
 |none=>none
def DG(ob:Option Cs)(o n:Nat):Option (List AD):=
 match ob with
 |some (.cells _ st cs)=>if st≠0/\o+n<=cs.length then some ((cs.drop o).take n)else none
 |_=>none
def JD(ob:Option Cs)(t:TypeId)(o:Nat):Option AD:=
 match La P t with
 |some true=>(DK P t).bind λn=>(DG ob o n).map .agg
 |some false=>
  match DG ob o 1 with
  |some [v]=>some v
  |_=>none
 |none=>none
def GV:AD->AD
 | .slice _ 0=>.Im 0 []
 |v=>v
def OU:Option TypeId->List AD->List AD
 |none,l=>l
 |some _,l=>l.map GV
def EK(g:Gd)(h:AF)(id o:Nat)(new:List AD):Option AF:=
 match h.get id with
 |some (.cells gr 2 cs)=>if g.may id=true/\o+new.length<=cs.length/\new.all AD.one=true then some (h.set id (.cells gr 2 (FY cs o (OU gr new))))else none
 |_=>none
def N1(g:Gd)(h:AF)(t:TypeId)(id o:Nat)(v:AD):Option AF:=
 match v.cells?,DK P t with
 |some new,some n=>if new.length=n then EK g h id o new else none
 |_,_=>none
abbrev dE:=(Nat->AD)×Cs
def RX(v:AD):Option dE:=
 match v.cells? with
 |some cs=>if cs.all AD.one=true then some (λn=>.ptr (some (n,0)),.cells none 2 cs)else none
 |none=>none
def Is(t:TypeId):Option AD:=
 match P.info? t with
 |some i=>i.zero.map dm
 |none=>none
def Mi(place:Nat->Option (Nat×Nat))(cells:List AD):List (Nat×AD)->Option (List AD)
 |[]=>some cells
 |(i,v)::rest=>
  match place i,v.cells? with
  |some (off,size),some new=>if new.length=size/\off+size<=cells.length then Mi place (FY cells off new) rest else none
  |_,_=>none
def Ux(fs:List Field):Option (List (Nat×Nat)):=fs.mapM λf=>(P.info? f.type).map λi=>(f.offset,i.size)
def Xp(t:TypeId)(parts:List (Nat×AD)):Option AD:=
 match P.underlying t,(Is P t).bind AD.cells? with
 |some (.array _ e),some z=>(DK P e).bind λn=>(Mi (λi=>some (i*n,n)) z parts).map .agg
 |some (.struct fs),some z=>(Ux P fs.toList).bind λps=>(Mi (ps[·]?) z parts).map .agg
 |_,_=>none
def G2(z:List AD):Nat->List AD
 |0=>[]
 |n+1=>z++G2 z n
def NI(t:TypeId)(len:Nat)(parts:List (Nat×AD)):Option dE:=
 match P.underlying t with
 | some (.slice e)=>
  match DK P e,(Is P e).bind AD.cells? with
  | some n,some z=>
   if len*n<=16777216/\z.length=n/\n≠0 then
    match Mi (λi=>some (i*n,n)) (G2 z len) parts with
    |some cs=>if(cs.map GV).all AD.one=true then some (λn=>.slice (some (n,0)) len,.cells (some e) 2 (cs.map GV))else none
    |none=>none
   else none
  |_,_=>none
 |_=>none
def QH(op:BinOp)(k:IntKind)(a b:Int):Option AD:=
 match op with
 | .add=>some (.int k (k.wrap (a+b)))
 | .sub=>some (.int k (k.wrap (a - b)))
 | .mul=>some (.int k (k.wrap (a*b)))
 | .quo=>if b=0 then none else some (.int k (k.wrap (a.tdiv b)))
 | .rem=>if b=0 then none else some (.int k (a.tmod b))
 | .and=>some (.int k (k.wrap (BitVec.ofInt k.bits a &&& BitVec.ofInt k.bits b).toNat))
 | .or=>some (.int k (k.wrap (BitVec.ofInt k.bits a ||| BitVec.ofInt k.bits b).toNat))
 | .xor=>some (.int k (k.wrap (BitVec.ofInt k.bits a ^^^ BitVec.ofInt k.bits b).toNat))
 | .andNot=>some (.int k (k.wrap (BitVec.ofInt k.bits a &&& ~~~BitVec.ofInt k.bits b).toNat))
 | .eql=>some (.bool (a==b))
 | .neq=>some (.bool (a !=b))
 | .lss=>some (.bool (decide (a<b)))
 | .leq=>some (.bool (decide (a<=b)))
 | .gtr=>some (.bool (decide (a>b)))
 | .geq=>some (.bool (decide (a>=b)))
 |_=>none
def Un(op:BinOp)(k:IntKind)(a b:Int):Option AD:=
 if b<0 then none else
 match op with
 | .shl=>some (.int k (k.wrap (a*2^(min b.toNat k.bits))))
 | .shr=>some (.int k (a.fdiv (2^(min b.toNat k.bits))))
 |_=>none
def Uu(op:BinOp)(a b:List UInt8):Option AD:=
 match op with
 | .add=>if a.length+b.length<=9223372036854775807 then some (.str (a++b))else none
 | .eql=>some (.bool (a==b))
 | .neq=>some (.bool !(a==b))
 | .lss=>some (.bool (Op.bytesLess a b))
 | .leq=>some (.bool (Op.bytesLess a b||a==b))
 | .gtr=>some (.bool !(Op.bytesLess a b||a==b))
 | .geq=>some (.bool !(Op.bytesLess a b))
 |_=>none
def GU(t:TypeId)(cs:List AD)(off:Nat):Option AD:=
 match La P t with
 |some true=>(DK P t).bind λn=>if off+n<=cs.length then some (.agg ((cs.drop off).take n))else none
 |some false=>cs[off]?
 |none=>none
def eqFields(eq:TypeId->AD->AD->Option Bool)(xs ys:List AD):List Field->Option Bool
 |[]=>some true
 | f::fs=>
  if f.name="_" then eqFields eq xs ys fs else
  match GU P f.type xs f.offset,GU P f.type ys f.offset with
  |some a,some b=>
   match eq f.type a b with
   |some true=>eqFields eq xs ys fs
   |some false=>some false
   |none=>none
  |_,_=>none
def KA(eq:TypeId->AD->AD->Option Bool)(e:TypeId)(z:Nat)(xs ys:List AD):Nat->Nat->Option Bool
 |0,_=>some true
 | n+1,i=>
  match GU P e xs (i*z),GU P e ys (i*z)with
  |some a,some b=>
   match eq e a b with
   |some true=>KA eq e z xs ys n (i+1)
   |some false=>some false
   |none=>none
  |_,_=>none
def Il:Nat->TypeId->AD->AD->Option Bool
 |0,_,_,_=>none
 |d+1,t,x,y=>
  match P.underlying t,x,y with
  |some .bool,.bool a,.bool b=>some (a==b)
  |some (.int _),.int k a,.int k' b=>if k=k' then some (a==b)else none
  |some .string,.str a,.str b=>some (a==b)
  |some (.pointer _),.ptr none,.ptr b=>some b.isNone
  |some (.pointer _),.ptr (some _),.ptr none=>some false
  |some (.pointer _),.Aw _,.ptr none=>some false
  |some (.map _ _),.map none,.map b=>some b.isNone
  |some (.map _ _),.map (some _),.map none=>some false
  |some (.func _ _ _),.nilFunc,.nilFunc=>some true
  |some (.func _ _ _),.nilFunc,.func _ _ _=>some false
  |some (.func _ _ _),.func _ _ _,.nilFunc=>some false
  |some (.struct fs),.agg xs,.agg ys=>if P.stoodInHeld t=true then none else eqFields P (Il d) xs ys fs.toList
  |some (.array n e),.agg xs,.agg ys=>(DK P e).bind λz=>KA P (Il d) e z xs ys n 0
  |_,_,_=>none
def dK:AD->Bool
 | .bool _| .ptr _| .slice _ _| .map _| .nilFunc| .func _ _ _| .Im _ _| .Aw _=>true
 |_=>false
def W6(op:BinOp)(t:TypeId)(x y:AD):Option AD:=
 match x,y with
 | .int k a,.int k' b=>
  match op with
  | .shl| .shr=>Un op k a b
  |_=>if k=k' then QH op k a b else none
 | .str a,.str b=>Uu op a b
 | .agg xs,.agg ys=>
  if P.eqGuardType P.depth t=true then none else
  match op with
  | .eql=>(Il P 10000 t (.agg xs) (.agg ys)).map .bool
  | .neq=>(Il P 10000 t (.agg xs) (.agg ys)).map λb=>.bool !b
  |_=>none
 | x,y=>
  if dK x=true then
   match op with
   | .eql=>(Il P 10000 t x y).map .bool
   | .neq=>(Il P 10000 t x y).map λb=>.bool !b
   |_=>none
  else none
def iH:Operand->Bool
 | .const _=>true
 |_=>false
def jW(op:BinOp)(t:TypeId)(c:Bool):Option AD:=
 match P.underlying t with
 |some (.interface _)=>bif c then(match op with| .eql=>some (.bool true)| .neq=>some (.bool false)|_=>none)else none
 |_=>none
def Vu(op:BinOp)(t:TypeId)(c:Bool)(x y:AD):Option AD:=
 match x,y with
 | .nilIface,.nilIface=>jW P op t c
 |x,y=>W6 P op t x y
def lJ(op:UnOp)(x:AD):Option AD:=
 match op,x with
 | .neg,.int k n=>QH .sub k 0 n
 | .xor,.int k n=>QH .xor k (if k.signed then -1 else k.max) n
 | .not,.bool b=>some (.bool !b)
 |_,_=>none
def bytesOf:List AD->Option (List UInt8)
 |[]=>some []
 | .int .u8 n::r=>(bytesOf r).map (UInt8.ofNat n.toNat::·)
 |_=>none
def a8(src dst:TypeId)(x:AD):Option AD:=
 match P.underlying src,P.underlying dst,x with
 |some _,some (.int k),.int _ n=>some (.int k (k.wrap n))
 |some _,some .string,.str s=>some (.str s)
 |some _,some .string,.int _ n=>some (.str (Utf8.encode n).data.toList)
 |_,_,_=>none
def YP(src dst:TypeId)(x:AD):Option dE:=
 match P.underlying src,P.underlying dst,x with
 |some _,some (.slice e),.str s=>
  match P.underlying e,DK P e with
  |some (.int .u8),some 1=>if s.length<=1099511627776 then some (λn=>.slice (some (n,0)) s.length,.cells (some e) 2 (s.map λb=>.int .u8 b.toNat))else none
  |_,_=>none
 |_,_,_=>none
def SG(ob:Option Cs)(src dst:TypeId)(x:AD):Option AD:=
 match P.underlying src,P.underlying dst,x with
 | some (.slice e),some .string,.slice r n=>
  match P.underlying e with
  |some (.int .u8)=>
   match r with
   |none=>some (.str [])
   |some (_,o)=>if n=0 then some (.str [])else(DG ob o n).bind λcs=>(bytesOf cs).map .str
  |_=>none
 |some (.slice e),some .string,.Im n cs=>
  match P.underlying e with
  |some (.int .u8)=>if cs.length=n then(bytesOf cs).map .str else none
  |_=>none
 |_,_,_=>none
def Md(t:TypeId)(l c:AD):Option dE:=
 match P.underlying t,l,c with
 | some (.slice e),.int _ l,.int _ c=>
  match P.info? e with
  | some i=>
   match i.zero.map dm with
   | some z=>
    match z.cells?.map (·.map GV)with
    | some zc=>
     if 0<=l/\l<=c/\c<=1099511627776/\i.bytes*c<=1099511627776/\zc.length=i.size/\zc.all AD.one=true then
      some (λn=>.slice (some (n,0)) l.toNat,.cells (some e) 2 (G2 zc c.toNat))
     else none
    |none=>none
   |none=>none
  |none=>none
 |_,_,_=>none
def GW(n:Nat)(lo hi:Option AD):Option (Nat×Nat):=
 match hi with
 | some (.int _ u)=>
  if 0<=u/\u<=n then
   match lo with
   |some (.int _ l)=>if 0<=l/\l<=u then some (l.toNat,u.toNat)else none
   |some _=>none
   |none=>some (0,u.toNat)
  else none
 |some _=>none
 |none=>
  match lo with
  |some (.int _ l)=>if 0<=l/\l<=n then some (l.toNat,n)else none
  |some _=>none
  |none=>some (0,n)
def U4(t:TypeId)(x:AD)(lo hi:Option AD):Option AD:=
 match P.underlying t,x with
 |some .string,.str s=>(GW s.length lo hi).map λ(l,u)=>.str ((s.drop l).take (u - l))
 |_,_=>none
def TA(ob:Option Cs)(t:TypeId)(x:AD)(lo hi:Option AD):Option AD:=
 match P.underlying t,x with
 |some (.array n e),.ptr (some (id,o))=>
  match ob with
  |some (.cells none _ _)=>(DK P e).bind λz=>(GW n lo hi).map λ(l,u)=>.slice (some (id,o+l*z)) (u - l)
  |_=>none
 |some (.slice e),.slice none 0=>(DK P e).bind λ_=>(GW 0 lo hi).map λ_=>.slice none 0
 |some (.slice e),.Im n cs=>(DK P e).bind λz=>if cs.length=n*z then(GW n lo hi).map λ(l,u)=>.Im (u - l) ((cs.drop (l*z)).take ((u - l)*z))else none
 |some (.slice e),.slice (some (id,o)) n=>
  match ob,DK P e with
  |some (.cells none _ _),some z=>(GW n lo hi).map λ(l,u)=>.slice (some (id,o+l*z)) (u - l)
  |some (.cells (some e') _ _),some z=>if DK P e'=some z then(GW n lo hi).map λ(l,u)=>.slice (some (id,o+l*z)) (u - l)else none
  |_,_=>none
 |_,_=>none
def O5(s:TypeId)(x:AD)(f:Nat):Option AD:=
 match P.underlying s,x with
 | some (.struct fs),.ptr (some (id,o))=>
  match fs[f]? with
  |some fd=>
   match DK P fd.type with
   |some 0=>none
   |some _=>some (.ptr (some (id,o+fd.offset)))
   |none=>none
  |none=>none
 | some (.struct fs),.LV g o=>
  match fs[f]? with
  |some fd=>
   match DK P fd.type with
   |some 0=>none
   |some _=>some (.LV g (o+fd.offset))
   |none=>none
  |none=>none
 | some (.struct fs),.Aw cs=>
  match fs[f]? with
  |some fd=>
   match DK P fd.type with
   |some 0=>none
   |some _=>some (.Aw (cs.drop fd.offset))
   |none=>none
  |none=>none
 |_,_=>none
def XM(s:TypeId)(x:AD)(f:Nat):Option AD:=
 match P.underlying s,x with
 |some (.struct fs),.agg cs=>
  match fs[f]? with
  |some fd=>GU P fd.type cs fd.offset
  |none=>none
 |_,_=>none
def Kq(t:TypeId)(x i:AD):Option AD:=
 match P.underlying t,x,i with
 |some (.array n e),.ptr (some (id,o)),.int _ i=>if 0<=i/\i<n then(DK P e).map λz=>.ptr (some (id,o+i.toNat*z))else none
 |some (.slice e),.slice (some (id,o)) n,.int _ i=>if 0<=i/\i<n then(DK P e).map λz=>.ptr (some (id,o+i.toNat*z))else none
 |some (.array n e),.LV g o,.int _ i=>if 0<=i/\i<n then(DK P e).map λz=>.LV g (o+i.toNat*z)else none
 |some (.array n e),.Aw cs,.int _ i=>if 0<=i/\i<n then(DK P e).map λz=>.Aw (cs.drop (i.toNat*z))else none
 |some (.slice e),.Im n cs,.int _ i=>if 0<=i/\i<n then(DK P e).bind λz=>if cs.length=n*z/\z≠0 then some (.Aw ((cs.drop (i.toNat*z)).take z))else none else none
 |_,_,_=>none
def QE(t:TypeId)(x i:AD):Option AD:=
 match P.underlying t,x,i with
 |some (.array n e),.agg cs,.int _ i=>if 0<=i/\i<n then(DK P e).bind λz=>GU P e cs (i.toNat*z)else none
 |some .string,.str s,.int _ i=>if 0<=i then(s[i.toNat]?).map λb=>.int .u8 b.toNat else none
 |_,_,_=>none
def EG(h:AF)(z n:Nat):AD->Option (List AD)
 | .slice (some (id,o)) _=>if n=0 then some []else DG (h.get id) o (n*z)
 | .slice none _=>if n=0 then some []else none
 | .str s=>if z=1 then some ((s.take n).map λb=>.int .u8 b.toNat)else none
 | .Im n' cs=>if n<=n'/\cs.length=n'*z then some (cs.take (n*z))else none
 |_=>none
def TN:AD->Option Nat
 | .slice _ n=>some n
 | .Im n _=>some n
 | .str s=>some s.length
 |_=>none
def Lb:TypeDesc->Bool
 | .int _=>false
 |_=>true
def appendCore(g:Gd)(h:AF)(e:TypeId)(i:TypeInfo)(r:Option (Nat×Nat))(sl n:Nat)(x:AD):Option (AD×AF):=
 if n=0 then some (.slice r sl,h)
 else if i.size≠0/\sl+n<=1099511627776/\(sl+n)*i.bytes<=1099511627776/\i.zero.map (·.cells.size)=some i.size then
  match(EG h i.size n x).map (·.map GV),EG h i.size sl (.slice r sl)with
  | some new,some JY=>
   if (JY++new).all AD.one=true then
    match r with
    |none=>some (.slice (some (h.size,0)) (sl+n),h.push (.cells (some e) 2 (JY++new)))
    | some (id,_)=>
     match h.get id with
     |some (.cells (some e') 2 _)=>
      if g.may id=true/\e'=e then some (.slice (some (h.size,0)) (sl+n),(h.set id (.cells (some e') 0 [])).push (.cells (some e) 2 (JY++new)))
      else none
     |_=>none
   else none
  |_,_=>none
 else none
def Pn(g:Gd)(h:AF)(ts:Array TypeId)(s x:AD):Option (AD×AF):=
 match ts[0]?,ts[1]?,s,TN x with
 | some st,some xt,.slice r sl,some n=>
  match P.underlying st,P.underlying xt with
  |some (.slice e),some d=>
   match P.info? e with
   |some i=>if Lb d=true then appendCore g h e i r sl n x else none
   |none=>none
  |_,_=>none
 |_,_,_,_=>none
def YQ(g:Gd)(h:AF)(ts:Array TypeId)(d x:AD):Option (AD×AF):=
 match ts[0]?,d,TN x with
 | some dt,.slice r dl,some sl=>
  match P.underlying dt with
  | some (.slice e)=>
   match DK P e with
   |some z=>
    match EG h z (min sl dl) x,r with
    |some new,some (id,o)=>if min sl dl=0 then some (.int .i64 0,h)else(EK g h id o new).map λh'=>(.int .i64 (min sl dl:Nat),h')
    |some _,none=>if min sl dl=0 then some (.int .i64 0,h)else none
    |none,_=>none
   |none=>none
  |_=>none
 |_,_,_=>none
def hD(ts:Array TypeId)(x:AD):Option AD:=
 match ts[0]? with
 |none=>none
 |some t=>
  match P.underlying t,x with
  |some .string,.str s=>some (.int .i64 s.length)
  |some (.array n _),_=>some (.int .i64 n)
  |some (.slice _),.slice _ n=>some (.int .i64 n)
  |some (.slice _),.Im n _=>some (.int .i64 n)
  |_,_=>none
def fg(ob:Option Cs)(ts:Array TypeId)(x:AD):Option AD:=
 match ts[0]? with
 |none=>none
 | some t=>
  match P.underlying t,x with
  |some (.map _ _),.map none=>some (.int .i64 0)
  |some (.map _ _),.map (some _)=>
   match ob with
   |some (.map st es)=>if st≠0 then some (.int .i64 es.length)else none
   |_=>none
  |some (.chan _ _),.chan (some _)=>
   match ob with
   |some (.chan _ buf)=>some (.int .i64 buf.length)
   |_=>none
  |_,_=>none
def OG(mx:Bool):AD->List AD->Option AD
 |v,[]=>some v
 | .int k a,.int k' b::r=>if k=k' then OG mx (.int k (if mx then(if b>a then b else a)else(if b<a then b else a))) r else none
 |_,_=>none
def EL(t:TypeId)(k:AD):List (AD×AD)->Nat->Option (Option (Nat×AD))
 |[],_=>some none
 |(k',v)::es,i=>
  match Il P 10000 t k k' with
  |some true=>some (some (i,v))
  |some false=>EL t k es (i+1)
  |none=>none
def Gy:Nat->TypeId->AD->Bool
 |0,_,_=>false
 |d+1,t,v=>
  match P.underlying t,v with
  |some (.int _),.int _ _=>true
  |some .string,.str _=>true
  |some .bool,.bool _=>true
  |some (.struct fs),.agg cs=>fs.toList.all (λf=>f.name !="_"&&(match GU P f.type cs f.offset with|some x=>Gy d f.type x|none=>false))
  |some (.array n e),.agg cs=>(match DK P e with|some z=>(List.range n).all (λi=>match GU P e cs (i*z)with|some x=>Gy d e x|none=>false)|none=>false)
  |_,_=>false
def N8(ob:Option Cs)(t:TypeId)(x k:AD)(ok:Bool):Option AD:=
 match P.underlying t,x with
 | some (.map kt et),.map r=>
  if Gy P 20 kt k=true then
   match(match r with|none=>some []|some _=>match ob with|some (.map st es)=>if st≠0 then some es else none|_=>none)with
   |some es=>
    match EL P kt k es 0 with
    |some (some (_,v))=>some (if ok then .tuple [v,.bool true]else v)
    |some none=>(Is P et).map λz=>if ok then .tuple [z,.bool false]else z
    |none=>none
   |none=>none
  else none
 |_,_=>none
def Qr:AD->AD->Bool
 | .int k a,.int k' b=>decide (k=k')&&a==b
 | .str a,.str b=>a==b
 | .bool a,.bool b=>a==b
 |_,_=>false
def Nn:AD->AD->Bool
 | .agg a,.agg b=>a.length==b.length&&(a.zip b).all λp=>Qr p.1 p.2
 |x,y=>Qr x y
def KG(g:Gd)(h:AF):AD->Option (AD×AF)
 | .slice none 0=>some (.Im 0 [],h)
 | .slice (some (id,0)) n=>
  bif Nat.beq n 0 then some (.Im 0 [],h)else
  match h.get id with
  |some (.cells gr 2 cs)=>bif g.may id then some (.Im n cs,h.set id (.cells gr 0 cs))else none
  |some (.cells _ 0 (c::cs))=>some (.Im n (c::cs),h)
  |_=>none
 |v=>some (v,h)
def J8(g:Gd)(h:AF)(t:TypeId)(m k v:AD):Option AF:=
 match P.underlying t,m with
 | some (.map kt _),.map (some id)=>
  if Gy P 20 kt k=true/\g.may id=true then
   match h.get id with
   | some (.map 2 es)=>
    match EL P kt k es 0 with
    |some (some (i,_))=>
     match es[i]? with
     |some (k',_)=>if Nn k' k=true then some (h.set id (.map 2 (es.set i (k,v))))else none
     |none=>none
    |some none=>some (h.set id (.map 2 (es++[(k,v)])))
    |none=>none
   |_=>none
  else none
 |_,_=>none
def Ho(g:Gd)(h:AF)(t:TypeId)(m k v:AD):Option AF:=(KG g h v).bind λr=>J8 P g r.2 t m k r.1
def N3(g:Gd)(h:AF)(ts:Array TypeId)(m k:AD):Option AF:=
 match ts[0]? with
 |none=>none
 | some t=>
  match P.underlying t,m with
  | some (.map kt _),.map (some id)=>
   if Gy P 20 kt k=true/\g.may id=true then
    match h.get id with
    |some (.map 2 es)=>
     match EL P kt k es 0 with
     |some (some (i,_))=>some (h.set id (.map 2 (es.eraseIdx i)))
     |some none=>some h
     |none=>none
    |_=>none
   else none
  |_,_=>none
def Bd:Op->Nat
 | .move _| .assign _| .pick .. | .build .. | .nilCheck _| .binOp .. | .unOp .. | .makeFunc .. | .fieldAddr .. | .field .. | .indexAddr .. | .index .. | .extract .. =>0
 | .slice t .. =>match P.underlying t with|some .string=>0|_=>1
 | .convert s d _=>
  match P.underlying s,P.underlying d with
  |some (.slice _),some .string=>1
  |some (.slice _),some (.slice _)=>3
  |_,some (.slice _)=>2
  |_,_=>0
 | .load .. | .lookup .. =>1
 | .alloc _| .box .. | .buildSlice .. | .makeMap .. | .makeSlice .. | .range .. | .makeChan .. =>2
 | .call {callee:=.builtin .len,argTypes:=ts,..}=>
  match ts[0]? with
  |some t=>match P.underlying t with|some (.map _ _)=>1|some (.chan _ _)=>1|_=>0
  |none=>0
 | .call {callee:=.builtin .min,..}| .call {callee:=.builtin .max,..}=>0
 |_=>3
def Ku(fr:Fr):Op->Option AD
 | .move x| .assign x=>some (ev fr x)
 | .pick c a b=>
  match ev fr c with
  | .bool b'=>some (bif b' then ev fr a else ev fr b)
  |_=>none
 | .build t parts=>Xp P t (parts.toList.map λ(i,x)=>(i,ev fr x))
 | .nilCheck x=>
  match ev fr x with
  | .ptr (some r)=>some (.ptr (some r))
  | .LV g o=>some (.LV g o)
  | .Aw cs=>some (.Aw cs)
  | .func (.func f) a b=>some (.func (.func f) a b)
  |_=>none
 | .binOp op t x y _=>Vu P op t (iH x||iH y) (ev fr x) (ev fr y)
 | .unOp op _ x=>lJ op (ev fr x)
 | .convert s d x=>a8 P s d (ev fr x)
 | .makeFunc fn first cap=>some (.func fn (first.toList.map (ev fr)) (cap.toList.map (ev fr)))
 | .slice t x lo hi none=>U4 P t (ev fr x) (lo.map (ev fr)) (hi.map (ev fr))
 | .fieldAddr s x f=>O5 P s (ev fr x) f
 | .field s x f=>XM P s (ev fr x) f
 | .indexAddr t x i=>Kq P t (ev fr x) (ev fr i)
 | .index t x i=>QE P t (ev fr x) (ev fr i)
 | .extract x i=>
  match ev fr x with
  | .tuple vs=>vs[i]?
  |_=>none
 | .call {callee:=.builtin b,args:=asE9,argTypes:=ts}=>
  match b,asE9.toList.map (ev fr)with
  | .len,[x]=>hD P ts x
  | .min,x::r=>OG false x r
  | .max,x::r=>OG true x r
  |_,_=>none
 |_=>none
def GG:AD->Option Nat
 | .ptr (some (id,_))=>some id
 | .slice (some (id,_)) _=>some id
 | .map (some id)=>some id
 | .chan (some id)=>some id
 |_=>none
def EN(fr:Fr):Op->Option Nat
 | .load _ x=>GG (ev fr x)
 | .slice _ x _ _ _=>GG (ev fr x)
 | .convert _ _ x=>GG (ev fr x)
 | .lookup _ x _ _=>GG (ev fr x)
 | .call {args:=asE9,..}=>
  match asE9.toList with
  |[x]=>GG (ev fr x)
  |_=>none
 |_=>none
def Mh(G:Nat->Option (List AD))(fr:Fr)(ob:Option Cs):Op->Option AD
 | .load t a=>
  match ev fr a with
  | .ptr (some (_,o))=>JD P ob t o
  | .LV g o=>JD P ((G g).map λcs=>.cells none 1 cs) t o
  | .Aw cs=>JD P (some (.cells none 1 cs)) t 0
  |_=>none
 | .slice t x lo hi none=>TA P ob t (ev fr x) (lo.map (ev fr)) (hi.map (ev fr))
 | .convert s d x=>SG P ob s d (ev fr x)
 | .lookup t x k ok=>N8 P ob t (ev fr x) (ev fr k) ok
 | .call {callee:=.builtin .len,args:=asE9,argTypes:=ts}=>
  match asE9.toList with
  |[x]=>fg P ob ts (ev fr x)
  |_=>none
 |_=>none
def TH(fr:Fr):Op->Option dE
 | .alloc e=>(Is P e).bind RX
 | .box _ x=>RX (ev fr x)
 | .buildSlice t len parts=>NI P t len (parts.toList.map λ(i,x)=>(i,ev fr x))
 | .convert s d x=>YP P s d (ev fr x)
 | .makeMap _ none=>some (λn=>.map (some n),.map 2 [])
 | .makeSlice t l c=>Md P t (ev fr l) (ev fr c)
 | .makeChan t n=>
  match P.underlying t,ev fr n with
  |some (.chan _ e),.int _ n=>
   match P.info? e with
   |some i=>if 0<=n/\n<=1099511627776/\i.bytes*n<=1099511627776 then some (λk=>.chan (some k),.chan n.toNat [])else none
   |none=>none
  |_,_=>none
 | .range t x=>
  match P.underlying t,ev fr x with
  |some .string,.str s=>some (λn=>.ptr (some (n,0)),.iter s 0)
  |_,_=>none
 |_=>none
def Qy(g:Gd)(h:AF)(s d:TypeId)(x:AD):Option (AD×AF):=
 match P.underlying s,P.underlying d,x with
 |some (.slice _),some (.slice e),.slice (some (id,o)) n=>
  match P.underlying e,h.get id with
  |some (.int .u8),some (.cells gr 2 cs)=>bif Nat.beq s d&&(g.may id&& !(Nat.beq n 0))then some (.slice (some (id,o)) n,h.set id (.cells gr 2 cs))else none
  |_,_=>none
 |_,_,_=>none
def M0(g:Gd)(h:AF)(fr:Fr):Op->Option (AD×AF)
 | .convert s d x=>Qy P g h s d (ev fr x)
 | .store t a x=>
  match ev fr a with
  | .ptr (some (id,o))=>(N1 P g h t id o (ev fr x)).map (.tuple [],·)
  |_=>none
 | .mapUpdate t m k v| .insert t m k v=>(Ho P g h t (ev fr m) (ev fr k) (ev fr v)).map (.tuple [],·)
 | .next it true=>
  match ev fr it with
  | .ptr (some (id,0))=>
   match h.get id with
   | some (.iter s pos)=>
    if g.may id=true then
     if pos<s.length then
      some (.tuple [.bool true,.int .i64 pos,.int .i32 (Utf8.decode ⟨⟨s⟩⟩ pos).1],h.set id (.iter s (pos+(Utf8.decode ⟨⟨s⟩⟩ pos).2)))
     else some (.tuple [.bool false],h)
    else none
   |_=>none
  |_=>none
 | .call {callee:=.builtin b,args:=asE9,argTypes:=ts}=>
  match b,asE9.toList.map (ev fr)with
  | .append,[s,x]=>Pn P g h ts s x
  | .copy,[d,x]=>YQ P g h ts d x
  | .delete,[m,k]=>(N3 P g h ts m k).map (.tuple [],·)
  |_,_=>none
 |_=>none
def Jl(G:Nat->Option (List AD))(g:Gd)(h:AF)(fr:Fr)(op:Op):Option (AD×AF):=
 match Bd P op with
 |0=>(Ku P fr op).map (·,h)
 | 1=>
  match EN fr op with
  |none=>(Mh P G fr none op).map (·,h)
  |some id=>
   match h.get id with
   |some ob=>(Mh P G fr (some ob) op).map (·,h)
   |none=>none
 |2=>(TH P fr op).map λx=>(x.1 h.size,h.push x.2)
 |_=>M0 P g h fr op
end
structure WE where
 o8:Array Oper
 b:Nat
 o9:Array Oper
 tb:Tmp
 b2:Nat
 V6:Array Oper
 body:Code
def Tk:Code->Option WE
 | .seq (.region _ o8 false) (.block b (.loop (.seq (.region _ o9 false) (.seq (.cond (.tmp tb) .skip (.exit b')) (.block b2 (.seq (.region _ V6 false) body))))))=>bif Nat.beq b b'&& !Nat.beq b b2 then some ⟨o8,b,o9,tb,b2,V6,body⟩else none
 |_=>none
def af(o9:Array Oper)(tI tb:Tmp):Option Tmp:=
 match o9.toList with
 |[n,x]=>
  match n.op,n.dst,n.guard,x.op,x.dst,x.guard with
  | .next (.tmp t) false,some tn,none,.extract (.tmp tn') 0,some tb',none=>bif Nat.beq t tI&&Nat.beq tn tn'&&Nat.beq tb tb'&& !Nat.beq tn tI&& !Nat.beq tb tI then some tn else none
  |_,_,_,_,_,_=>none
 |_=>none
def ax(V6:Array Oper)(tI:Tmp):Option (Tmp×List Oper):=
 match V6.toList with
 |n::rest=>
  match n.op,n.dst,n.guard with
  | .entry (.tmp t),some te,none=>bif Nat.beq t tI&& !Nat.beq te tI then some (te,rest)else none
  |_,_,_=>none
 |_=>none
def Uq(n:Nat):AD->Bool
 | .undef| .bool _| .int _ _| .str _| .ptr none| .slice none _| .map none| .nilFunc| .nilIface=>true
 | .ptr (some (i,_))=>Nat.blt i n
 | .slice (some (i,_)) _=>Nat.blt i n
 |_=>false
def LP(n:Nat):AD->Bool
 | .agg cs=>cs.all (Uq n)
 |v=>Uq n v
def Fp(ks:List Nat):Nat->Fr->Fr
 |_,[]=>[]
 |i,a::l=>(bif ks.any (Nat.beq i)then a else .undef)::Fp ks (i+1) l
def Pk(it:Nat):AD->Bool
 | .ptr (some (a,b))=>Nat.beq a it&&Nat.beq b 0
 |_=>false
abbrev T5:=Option (Nat×Option TypeId)
def Fg(B:AF)(ob:T5)(cs:List AD):AF:=
 match ob with
 |none=>B
 |some (id,gr)=>B.set id (.cells gr 2 cs)
def TX(n:Nat):T5->Gd
 |none=>⟨n,[]⟩
 |some (id,_)=>⟨0,(List.range n).filter λk=> !Nat.beq k id⟩
def YK(g:Gd):T5->Bool
 |none=>true
 |some (id,_)=>g.may id
def Yt(h:AF)(fr:Fr):Option Tmp->Option (T5×List AD)
 |none=>some (none,[])
 | some t=>
  match nth fr t with
  | .slice (some (id,_)) _=>
   match h.get id with
   |some (.cells gr 2 cs)=>some (some (id,gr),cs)
   |_=>none
  |_=>none
def PL:AD->Bool
 | .bool _| .int _ _| .str _=>true
 |_=>false
def Ue(ob:T5)(h:AF):Option (List AD):=
 match ob with
 |none=>some []
 |some (id,gr)=>
  match h.get id with
  |some (.cells gr' 2 cs)=>if gr'=gr/\cs.all PL=true then some cs else none
  |_=>none
def TT(ks:List Nat)(n:Nat)(ob:T5)(fr:Fr)(h:AF)(r:Bool):Option (Bool×Fr×List AD):=
 bif (Fp ks 0 fr).all (LP n)then(Ue ob h).map λcs=>(r,Fp ks 0 fr,cs)else none
def EP{α β:Type}(rnd:α->β->Option (Bool×α)):List β->α->Option (Bool×α)
 |[],a=>some (false,a)
 |p::l,a=>
  match rnd a p with
  |some (false,b)=>EP rnd l b
  |r=>r
def Sv(ks:List Nat)(n tn tb:Nat):Bool:= !ks.any (Nat.beq tn)&& !ks.any (Nat.beq tb)&&Nat.blt tn n&&Nat.blt tb n
def lP:Type:={d:Prop->Bool // (∀p:Prop,d p=true->p)/\∀p q:Prop,d p=true->(p->q)->d q=true}
def gF:lP:=⟨λ_=>false,λ_ h=>(nomatch h),λ_ _ h=>(nomatch h)⟩
noncomputable def X0:lP:=⟨λp=>@decide p (Classical.propDecidable p),λp h=>@of_decide_eq_true p (Classical.propDecidable p) h,λp q h k=>@zg q (Classical.propDecidable q) (k (@of_decide_eq_true p (Classical.propDecidable p) h))⟩
structure Hv where
 P:Program
 kind:Nat->Nat
 OZ:Nat->Nat->List (Nat×List Nat)
 ext:Nat->Gd->AF->List AD->Option (AD×AF)
 DC:Nat->Option (List AD):=λ_=>none
 ki:FuncId->Code->Code->Bool:=λ_ _ _=>false
 still:FuncId->List Bool:=λ_=>[]
 ab:FuncId->Nat->Option (List Nat×List Nat×Option Tmp):=λ_ _=>none
 dec:lP:=gF
inductive CT where
 |normal
 |exit (id:Nat)
 |ret
structure Self where
 call:Gd->AF->FuncId->List AD->Option (AD×AF)
 loop:Gd->FuncId->Code->Fr->AF->Option (CT×Fr×AF)
 round:Gd->AF->Nat->List AD->Option (AD×AF)
section
variable (C:Hv) (S:Self)
def Bv(g:Gd)(h:AF)(fr:Fr)(op:Op):Option (AD×AF):=
 match op with
 | .call {callee:=.value x,args:=asE9,..}=>
  match ev fr x with
  | .func (.func f) first cap=>S.call g h f (first++(asE9.toList.map (ev fr)++cap))
  | .eP l=>S.round g h l (asE9.toList.map (ev fr))
  |_=>none
 |op=>Jl C.P C.DC g h fr op
def DN(ops:Array Oper)(fr:Fr)(o:Oper):Option Bool:=
 match o.guard with
 |none=>some true
 | some (j,want)=>
  match(ops[j]?).bind (·.dst)with
  |none=>some false
  |some d=>
   match nth fr d with
   | .bool b=>some (b==want)
   | .undef=>none
   |_=>some false
def Eb(g:Gd)(ops:Array Oper):List Oper->Fr->AF->Option (Fr×AF)
 |[],fr,h=>some (fr,h)
 | o::rest,fr,h=>
  match DN ops fr o with
  |some true=>
   match Bv C S g h fr o.op with
   |some (v,h')=>Eb g ops rest (put fr o.dst v) h'
   |none=>none
  |some false=>Eb g ops rest (put fr o.dst (.tuple [])) h
  |none=>none
def Jt(tch:List (Nat×Nat))(U:List Nat):List Nat:=tch.filterMap λ(i,id)=>bif U.any (Nat.beq i)then some id else none
def ID(P:Program)(h:AF)(fr:Fr)(i:Nat)(op:Op)(tch:List (Nat×Nat)):List (Nat×Nat):=
 match Bd P op with
 |1=>match EN fr op with|some id=>(i,id)::tch|none=>tch
 |2=>(i,h.size)::tch
 |_=>tch
def de:AD->AD->Bool
 | .ptr (some (a,b)),.ptr (some (c,d))=>Nat.beq a c&&Nat.beq b d
 | .int k a,.int k' b=>decide (k=k')&&decide (a=b)
 | .bool a,.bool b=>a==b
 | .str a,.str b=>decide (a=b)
 | .Im 0 [],.Im 0 []=>true
 |_,_=>false
def gk(ops:Array Oper)(fr:Fr)(h:AF)(i:Nat):Bool:=
 match ops[i]? with
 | some o=>
  match DN ops fr o with
  |some false=>true
  | some true=>
   match o.dst,EN fr o.op with
   | some d,some id=>
    Nat.blt d fr.length&&(match h.get id with
     |some ob=>(match Mh C.P C.DC fr (some ob) o.op with|some v=>de v (nth fr d)|none=>false)
     |none=>false)
   |_,_=>false
  |none=>false
 |none=>false
def RE(ops:Array Oper)(U:List Nat)(fr:Fr)(h:AF):Bool:=U.all λu=>Nat.blt u 10000||gk C ops fr h (u - 10000)
def DH(g:Gd)(ops:Array Oper):List (Nat×List Nat)->List (Nat×Nat)->Fr->AF->Option (Fr×AF)
 |[],_,fr,h=>some (fr,h)
 | (i,U)::rest,tch,fr,h=>
  match ops[i]? with
  |none=>none
  | some o=>
   match DN ops fr o with
   |some true=>
    match Bv C S ⟨g.floor,Jt tch U++g.BW⟩ h fr o.op with
    |some (v,h')=>bif RE C ops U (put fr o.dst v) h' then DH g ops rest (ID C.P h fr i o.op tch) (put fr o.dst v) h' else none
    |none=>none
   |some false=>DH g ops rest tch (put fr o.dst (.tuple [])) h
   |none=>none
def Bl(f:FuncId)(g:Gd):Code->Fr->AF->Option (CT×Fr×AF)
 | .skip,fr,h=>some (.normal,fr,h)
 | .label _,fr,h=>some (.normal,fr,h)
 | .region id ops draw,fr,h=>
  match(bif draw then DH C S g ops (C.OZ f id) [] fr h else Eb C S g ops ops.toList fr h)with
  |some (fr',h')=>some (.normal,fr',h')
  |none=>none
 | .seq a b,fr,h=>
  match Bl f g a fr h with
  |some (.normal,fr',h')=>Bl f g b fr' h'
  |r=>r
 | .cond c a b,fr,h=>
  match ev fr c with
  | .bool true=>Bl f g a fr h
  | .bool false=>Bl f g b fr h
  |_=>none
 | .block id c,fr,h=>
  match Bl f g c fr h with
  |some (.exit i,fr',h')=>bif Nat.beq i id then some (.normal,fr',h')else some (.exit i,fr',h')
  |r=>r
 | .loop c,fr,h=>
  match Bl f g c fr h with
  |some (.normal,fr',h')=>S.loop g f c fr' h'
  |r=>r
 | .scope c,fr,h=>Bl f g c fr h
 | .exit id,fr,h=>some (.exit id,fr,h)
 | .ret,fr,h=>some (.ret,fr,h)
 |_,_,_=>none
def dU(_:Hv)(_:Self)(_:Gd)(_:AF)(_:Nat)(_:List AD):Option (AD×AF):=none
def Tc(P:Program)(g:Gd)(h:AF)(fr:Fr):Op->Option (AD×AF)
 | .select cases blocking=>
  match cases.toList,blocking with
  | [c],false=>
   match Is P c.elem with
   | some z=>
    match ev fr c.chan with
    | .chan (some id)=>
     match h.get id with
     | some (.chan cap buf)=>
      match c.send with
      |some x=>
       bif Nat.ble cap buf.length then some (.tuple [.int .i64 (-1),.bool false],h)
       else bif g.may id then some (.tuple [.int .i64 0,.bool false],h.set id (.chan cap (buf++[ev fr x])))
       else none
      |none=>
       match buf with
       |v::rest=>bif g.may id then some (.tuple [.int .i64 0,.bool true,v],h.set id (.chan cap rest))else none
       |[]=>some (.tuple [.int .i64 (-1),.bool false,z],h)
     |_=>none
    |_=>none
   |none=>none
  |_,_=>none
 |_=>none
def Ly:Code->Bool
 | .region _ ops draw=> !draw&&(match ops[0]? with|some o=>(match o.op with| .select _ _=>o.guard.isNone|_=>false)|none=>false)
 |_=>false
def KS(g:Gd):Code->Fr->AF->Option (CT×Fr×AF)
 | .region _ ops _,fr,h=>
  match ops.toList with
  | o::rest=>
   match Tc C.P g h fr o.op with
   |some (v,h')=>
    match Eb C S g ops rest (put fr o.dst v) h' with
    |some (fr',h')=>some (.normal,fr',h')
    |none=>none
   |none=>none
  |[]=>none
 |_,_,_=>none
def Ic(f:FuncId)(g:Gd):Code->Fr->AF->Option (CT×Fr×AF)
 | .seq a b,fr,h=>
  match Ic f g a fr h with
  |some (.normal,fr',h')=>Ic f g b fr' h'
  |r=>r
 |c,fr,h=>bif Ly c then KS C S g c fr h else Bl C S f g c fr h
def Lr(f:FuncId)(q:WE)(ks rs:List Nat)(it:Nat)(tI te:Tmp)(rest:List Oper)(B:AF)(ob:T5)(σ:Fr×List AD)(p:AD×AD):Option (Bool×Fr×List AD):=
 match Eb C S (TX B.size ob) q.V6 rest (σ.1.set te (.tuple [p.1,p.2])) (Fg B ob σ.2)with
 |some (fr2,h2)=>
  match Bl C S f (TX B.size ob) q.body fr2 h2 with
  |some (.normal,fr,h)=>bif Pk it (nth fr tI)then TT ks B.size ob fr h false else none
  |some (.exit i,fr,h)=>bif Nat.beq i q.b2&&Pk it (nth fr tI)then TT ks B.size ob fr h false else none
  |some (.ret,fr,h)=>TT rs B.size ob fr h true
  |none=>none
 |none=>none
def Uc(rnd:Fr×List AD->AD×AD->Option (Bool×Fr×List AD))(es:List (AD×AD))(σ:Fr×List AD)(B:AF)(ob:T5):Option (CT×Fr×AF):=
 match EP rnd es σ with
 |some (r,fr,cs)=>bif C.dec.1 (∀es',es'.Perm es->EP rnd es' σ=some (r,fr,cs))then some (bif r then .ret else .normal,fr,Fg B ob cs)else none
 |none=>none
def Q5(f:FuncId)(q:WE)(g:Gd)(ks rs:List Nat)(ot:Option Tmp)(orng:Oper)(fr1:Fr)(h1:AF):Option (CT×Fr×AF):=
 match orng.op,orng.dst,orng.guard with
 | .range tM x,some tI,none=>
  match ev fr1 x,C.P.underlying tM,af q.o9 tI q.tb,ax q.V6 tI with
  | .map (some id),some (.map _ _),some tn,some (te,rest)=>
   match h1.get id,Yt h1 fr1 ot with
   | some (.map 2 es),some (ob,cs0)=>
    bif g.may id&&YK g ob&&(Fp ks 0 (fr1.set tI (.ptr (some (h1.size,0))))).all (LP (h1.size+1))&&Pk h1.size (nth (Fp ks 0 (fr1.set tI (.ptr (some (h1.size,0))))) tI)&&Sv ks fr1.length tn q.tb&&cs0.all PL then
     Uc C (Lr C S f q ks rs h1.size tI te rest ((h1.set id (.map 0 [])).push (.cells none 0 [])) ob) es (Fp ks 0 (fr1.set tI (.ptr (some (h1.size,0)))),cs0) ((h1.set id (.map 0 [])).push (.cells none 0 [])) ob
    else none
   |_,_=>none
  |_,_,_,_=>none
 |_,_,_=>none
def Pa(f:FuncId)(q:WE)(g:Gd)(fr:Fr)(h:AF):Option (CT×Fr×AF):=
 match C.ab f q.b,q.o8.toList.getLast?,Eb C S g q.o8 q.o8.toList.dropLast fr h with
 |some (ks,rs,ot),some orng,some (fr1,h1)=>Q5 C S f q g ks rs ot orng fr1 h1
 |_,_,_=>none
def Hu(f:FuncId)(g:Gd):Code->Fr->AF->Option (CT×Fr×AF)
 | .seq a b,fr,h=>
  match Tk (.seq a b)with
  |some q=>Pa C S f q g fr h
  |none=>
   match Hu f g a fr h with
   |some (.normal,fr',h')=>Hu f g b fr' h'
   |r=>r
 |c,fr,h=>Bl C S f g c fr h
def JS(P:Program)(fr:Fr)(h:AF):ResultVar->Option AD
 | .tmp t=>some (nth fr t)
 | .cell a t=>
  match nth fr a with
  | .ptr (some (id,o))=>JD P (h.get id) t o
  |_=>none
def Dz(P:Program)(fn:Func)(fr:Fr)(h:AF):Option AD:=
 match fn.results.toList.mapM (JS P fr h)with
 |some [v]=>some v
 |some vs=>some (.tuple vs)
 |none=>none
def G9:AD->Bool
 | .bool _| .int _ _| .str _| .ptr none| .slice none _| .map none| .chan none| .nilFunc| .nilIface=>true
 |_=>false
def Ko:AD->Bool
 | .agg cs=>cs.all G9
 |v=>G9 v
def Pd:AD->Bool
 | .tuple vs=>vs.all Ko
 |v=>Ko v
def Nb(l:Nat):Code->Option Code
 | .goto l'=>bif Nat.beq l l' then some .skip else none
 | .seq a b=>(Nb l b).map (Code.seq a)
 |_=>none
def iP:Code->Option (Code×Nat×Code)
 | .seq a b=>
  match a with
  | .label l=>(Nb l b).map λr=>(.skip,l,r)
  |_=>(iP b).bind λq=>match findLabel a q.2.1 with
   |none=>some (.seq a q.1,q.2.1,q.2.2)
   |some _=>none
 |_=>none
def cJ:Code->Code
 | .scope c=>
  match iP c with
  |some (p,_,b)=>.seq p (.loop b)
  |none=>.scope c
 | .seq a b=>.seq a (cJ b)
 |c=>c
def K5(g:Gd)(h:AF)(f:FuncId)(args:List AD):Option (AD×AF):=
 match C.P.funcs[f]? with
 |none=>none
 | some fn=>
  match fn.body with
  |none=>none
  |some c=>
   match Bl C S f g (cJ c) (args++List.replicate (fn.ntmps - args.length) (.tuple [])) h with
   |some (.normal,fr,h')=>(Dz C.P fn fr h').map (·,h')
   |some (.ret,fr,h')=>(Dz C.P fn fr h').map (·,h')
   |_=>none
def Sg(g:Gd)(h:AF)(f:FuncId)(args:List AD):Option (AD×AF):=
 match C.P.funcs[f]? with
 |none=>none
 | some fn=>
  match fn.body with
  |none=>none
  |some c=>
   match Ic C S f g c (args++List.replicate (fn.ntmps - args.length) (.tuple [])) h with
   |some (.normal,fr,h')=>(Dz C.P fn fr h').map (·,h')
   |some (.ret,fr,h')=>(Dz C.P fn fr h').map (·,h')
   |_=>none
def Rr(g:Gd)(h:AF)(f:FuncId)(args:List AD):Option (AD×AF):=
 match C.P.funcs[f]? with
 |none=>none
 | some fn=>
  match fn.body with
  |none=>none
  |some c=>
   match Hu C S f g c (args++List.replicate (fn.ntmps - args.length) (.tuple [])) h with
   |some (.normal,fr,h')=>(Dz C.P fn fr h').map (·,h')
   |some (.ret,fr,h')=>(Dz C.P fn fr h').map (·,h')
   |_=>none
def Ox(f:AF->AD->Option (AD×AF)):List AD->AF->Option (List AD×AF)
 |[],h=>some ([],h)
 |v::vs,h=>
  match f h v with
  |some (v',h1)=>(Ox f vs h1).map λr=>(v'::r.1,r.2)
  |none=>none
def OT(g:Gd)(h:AF):AD->Option (AD×AF)
 | .agg cs=>(Ox (KG g) cs h).map λr=>(.agg r.1,r.2)
 |v=>KG g h v
def RP(g:Gd)(h:AF):AD->Option (AD×AF)
 | .tuple vs=>(Ox (OT g) vs h).map λr=>(.tuple r.1,r.2)
 |v=>OT g h v
def VF:AD->AD
 | .agg cs=>.agg (cs.map GV)
 |v=>GV v
def CQ:List Bool->List AD->List AD
 |true::bs,v::vs=>VF v::CQ bs vs
 |false::bs,v::vs=>v::CQ bs vs
 |_,vs=>vs
def JE(g:Gd)(h:AF)(f:FuncId)(args:List AD):Option (AD×AF):=
 match C.kind f with
 |1=>K5 C S g h f (CQ (C.still f) args)
 |2=>
  match K5 C S ⟨h.size,[]⟩ h f args with
  |some (v,_)=>bif Pd v then some (v,h)else none
  |none=>none
 |3=>C.ext f g h args
 | 4=>
  bif args.all Ko then
   match K5 C S ⟨0,[]⟩ ⟨0,.leaf⟩ f args with
   |some (v,_)=>bif Pd v then some (v,h)else none
   |none=>none
  else none
 |7=>
  match K5 C S g h f (CQ (C.still f) args)with
  |some (v,h')=>RP g h' v
  |none=>none
 |8=>Sg C S g h f (CQ (C.still f) args)
 |10=>Rr C S g h f (CQ (C.still f) args)
 |11=>
  match Ox (OT g) args h with
  |some (args',h1)=>K5 C S g h1 f args'
  |none=>none
 |_=>none
end
def DY(C:Hv):Nat->Self
 |0=>⟨λ_ _ _ _=>none,λ_ _ _ _ _=>none,λ_ _ _ _=>none⟩
 |n+1=>⟨JE C (DY C n),λg f c=>Bl C (DY C n) f g (.loop c),dU C (DY C n)⟩
def jo(C:Hv)(n:Nat)(g:Gd)(h:AF)(f:FuncId)(args:List AD):Option (AD×AF):=(DY C n).call g h f args
theorem kr{α:Sort _}{a b:α}(h:a=b:=by kernel_rfl):a=b:=h
theorem om{p:Prop}(h:p:=by omega):p:=h
abbrev pz(n:Nat):AD:=.ptr (some (n,0))
abbrev eZ:List UInt8:=[]
end Go.Av
