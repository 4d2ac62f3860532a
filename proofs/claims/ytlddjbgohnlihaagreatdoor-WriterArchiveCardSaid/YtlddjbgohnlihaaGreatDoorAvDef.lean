/-
 A part.
-/
import Derived.Calls
set_option linter.unusedSimpArgs false
namespace Go.Av
set_option linter.defProp false
def za:=@Option.bind_some
def zb:=@Nat.le_of_ble_eq_true
def zd:=@Option.some.injEq
def ze:=@List.length_append
def zf:=@decide_eq_true
def zg:=@Prod.mk.injEq
def zh:=@Bool.and_eq_true
def zi:=@decide_eq_false
def zj:=@Option.map_some
def zk:=@if_neg
def zl:=@Option.map_eq_some_iff
def zm:=@if_pos
def zn:=@List.all_eq_true
def zo:=@List.getD_eq_getElem?_getD
def zr:=@Array.getD_eq_getD_getElem?
def zt:=@List.length_cons
def zu:=@Nat.eq_of_beq_eq_true
def zw:=@List.append_assoc
def zx:=@decide_eq_false_iff_not
def zy:=@List.eq_nil_of_length_eq_zero
def zA:=@List.length_take
def zB:=@List.mem_append
def zC:=@Nat.le_refl
def zD:=@decide_eq_true_eq
def zF:=@List.mem_cons
def zG:=@List.length_nil
def zH:=@Bool.or_eq_false_iff
def zI:=@List.take_of_length_le
def zJ:=@Option.some.inj
def zK:=@Bool.not_eq_true'
def zL:=@beq_eq_false_iff_ne
def zM:=@List.take_append_drop
def zN:=@Int.toNat_natCast
def zO:=@List.mem_range
def zP:=@List.drop_eq_getElem_cons
def zQ:=@List.mem_of_getElem?
def zR:=@List.all_cons
def zS:=@List.getElem_mem
def zT:=@List.length_replicate
def zU:=@List.map_cons
def zV:=@Option.getD_some
def zW:=@cond_true
def zX:=@Nat.lt_of_lt_of_le
def zY:=@Bool.not_true
def zZ:=@List.mem_map
def z8:=@List.take_length
def ya:=@Nat.add_sub_cancel_left
def yb:=@Bool.and_eq_false_iff
def yc:=@List.drop_eq_nil_of_le
def yd:=@List.length_drop
def ye:=@List.nil_append
def yf:=@List.mem_filter
def yg:=@Nat.lt_or_ge
def yh:=@List.nodup_append
def yi:=@List.drop_length_add_append
def yj:=@List.append_nil
def yl:=@List.drop_zero
def ym:=@Nat.beq_refl
def yn:=@List.map_append
def yo:=@Bool.or_eq_true
def yp:=@List.length_set
def yq:=@Nat.zero_add
def yr:=@List.flatten_cons
def yu:=@Bool.false_eq_true
def yv:=@Nat.eq_zero_or_pos
def yw:=@List.mem_cons_of_mem
def yx:=@List.pairwise_cons
def yy:=@List.length_map
def yz:=@List.not_mem_nil
def yA:=@List.getElem_of_mem
def yB:=@Nat.zero_le
def yC:=@Nat.add_mul
def yD:=@Bool.not_false
def yE:=@List.mem_of_mem_take
def yF:=@Nat.le_max_right
def yG:=@decide_eq_decide
def yH:=@List.set_eq_take_append_cons_drop
def yI:=@Nat.add_assoc
def yJ:=@Bool.false_or
def yK:=@Bool.or_false
def yL:=@Bool.true_and
def yM:=@beq_iff_eq
def yN:=@List.flatMap_cons
def yO:=@Array.length_toList
def yP:=@List.flatten_append
def yQ:=@List.nodup_cons
def yR:=@List.foldl_cons
def yS:=@Nat.le_max_left
def yT:=@List.mem_singleton
def yU:=@Nat.add_zero
def yV:=@Nat.sub_self
def yW:=@List.take_left
def yX:=@Bool.false_and
def yY:=@Nat.blt_eq
def yZ:=@List.drop_succ_cons
def y3:=@Int.toNat_of_nonneg
def y4:=@Nat.pow_succ
def y5:=@List.cons_append
def y6:=@List.any_eq_true
def y7:=@List.take_zero
def y8:=@Nat.le_trans
def y9:=@cond_false
def qa:=@List.filterMap_cons_none
def qb:=@List.filterMap_cons_some
def qc:=@List.take_succ_cons
def qd:=@Array.eq_empty_of_size_eq_zero
def qf:=@Bool.not_eq_true
def qg:=@List.mem_flatMap
def qh:=@Nat.mod_lt
def qi:=@List.all_append
def qj:=@Bool.eq_iff_iff
def qk:=@List.take_length_add_append
def ql:=@Nat.lt_trichotomy
def qm:=@List.drop_drop
def qn:=@Nat.mul_le_mul_right
def qo:=@List.lt_irrefl
def qp:=@Nat.mul_comm
def qq:=@List.getElem_append_right
def qr:=@List.replicate_succ
def qs:=@Nat.min_eq_left
def qt:=@Bool.not_eq_false'
def qu:=@Int.eq_ofNat_of_zero_le
def qv:=@List.all_nil
def qw:=@List.length_filter_le
def qx:=@List.singleton_append
def qy:=@List.length_singleton
def qz:=@Nat.le_of_not_lt
def qA:=@List.filter_cons
def qB:=@List.mem_of_mem_drop
def qC:=@Nat.one_mul
def qD:=@List.mem_iff_getElem
def qE:=@Nat.pow_le_pow_right
def qF:=@List.perm_append_comm_assoc
def qG:=@List.mem_filterMap
def qH:=@Nat.lt_or_gt_of_ne
def qI:=@Bool.and_false
def qJ:=@List.filterMap_eq_nil_iff
def qK:=@Option.isNone_iff_eq_none
def qL:=@Bool.eq_false_iff
def qM:=@List.pairwise_map
def qN:=@Bool.and_true
def qO:=@Array.toList_map
def qP:=@true_and
def qQ:=@Array.all_toList
def qR:=@bne_iff_ne
def qT:=@Nat.add_comm
def qU:=@Nat.div_div_eq_div_mul
def qV:=@Nat.mul_eq_zero
def qW:=@List.mem_iff_getElem?
def qX:=@List.mapM_cons
def qY:=@List.take_take
def qZ:=@List.replicate_succ'
def q9:=@List.le_iff_lt_or_eq
def xa:=@Bool.and_self
def xb:=@Nat.mul_assoc
def xc:=@Array.forIn_toList
def xd:=@List.mem_cons_self
def xe:=@Array.toList_push
def xf:=@List.ext_getElem?
def xg:=@List.map_nil
def xh:=@Bool.or_true
def xi:=@List.foldl_append
def xj:=@Nat.mod_eq_of_lt
def xk:=@List.nodup_range
def xl:=@Nat.div_eq_of_lt
def xm:=@List.drop_append
def xn:=@beq_self_eq_true
def xo:=@Nat.div_one
def xp:=@List.take_append_of_le_length
def xq:=@List.drop_append_of_le_length
def xr:=@List.forIn_cons
def xu:=@List.any_append
def xv:=@Array.toList_setIfInBounds
def xw:=@List.nodup_nil
def xx:=@List.drop_left
def xy:=@List.nodup_iff_pairwise_ne
def xz:=@Int.tdiv_eq_ediv_of_nonneg
def xA:=@Int.tmod_eq_emod_of_nonneg
def xB:=@List.pairwise_iff_getElem
def xC:=@Option.isSome_iff_exists
def xD:=@List.map_take
def xE:=@List.lt_trans
def xF:=@List.le_trans
def xG:=@List.getElem_append_left
def xH:=@List.dropLast_cons_cons
def xI:=@List.length_eq_zero_iff
def xJ:=@Nat.sub_zero
def xK:=@List.filter_eq_nil_iff
def xL:=@Nat.zero_mul
def xM:=@List.map_map
def xN:=@Nat.pow_zero
def xO:=@List.set_append_right
inductive AB where
 |undef
 |bool (b:Bool)
 |int (k:IntKind) (n:Int)
 |str (s:List UInt8)
 |ptr (r:Option (Nat×Nat))
 |Jw (g o:Nat)
 |slice (r:Option (Nat×Nat)) (len:Nat)
 |map (r:Option Nat)
 |chan (r:Option Nat)
 |func (fn:Fn) (first captured:List AB)
 |nilFunc
 |iface (t:TypeId) (v:AB)
 |nilIface
 |agg (cs:List AB)
 |tuple (vs:List AB)
 |HU (n:Nat) (cs:List AB)
 |A0 (cs:List AB)
 |Zf (l:Nat)
 deriving Inhabited
inductive B0 where
 |cells (grow:Option TypeId) (st:Nat) (cs:List AB)
 |map (st:Nat) (es:List (AB×AB))
 |iter (s:List UInt8) (pos:Nat)
 |loop (st:Nat) (pend:Option Code) (f:FuncId) (fr:List AB) (ps:List Tmp) (a b:Code)
 |chan (cap:Nat) (buf:List AB)
 deriving Inhabited
inductive Tr(α:Type) where
 |leaf
 |node (l:Tr α) (v:Option α) (r:Tr α)
def Tr.get{α:Type}:Tr α→Nat→Option α
 | .leaf,_=>none
 | .node l v r,i=>bif Nat.beq i 0 then v else bif Nat.beq (i%2) 1 then l.get (i / 2)else r.get (i / 2 - 1)
def Tr.set{α:Type}:Nat→Tr α→Nat→α→Tr α
 |0,t,_,_=>t
 |f+1,.leaf,i,x=>bif Nat.beq i 0 then .node .leaf (some x) .leaf else bif Nat.beq (i%2) 1 then .node (Tr.set f .leaf (i / 2) x) none .leaf else .node .leaf none (Tr.set f .leaf (i / 2 - 1) x)
 |f+1,.node l v r,i,x=>bif Nat.beq i 0 then .node l (some x) r else bif Nat.beq (i%2) 1 then .node (Tr.set f l (i / 2) x) v r else .node l v (Tr.set f r (i / 2 - 1) x)
structure AI where
 size:Nat
 tr:Tr B0
def AI.get(h:AI)(i:Nat):Option B0:=bif Nat.blt i h.size then h.tr.get i else none
def AI.set(h:AI)(i:Nat)(o:B0):AI:=⟨h.size,Tr.set (i+1) h.tr i o⟩
def AI.push(h:AI)(o:B0):AI:=⟨h.size+1,Tr.set (h.size+1) h.tr h.size o⟩
structure Gd where
 floor:Nat
 CF:List Nat
def Gd.may(g:Gd)(id:Nat):Bool:=Nat.ble g.floor id&& !(g.CF.any (Nat.beq id))
abbrev Fr:=List AB
def nth:List AB→Nat→AB
 |[],_=>.tuple []
 |a::_,0=>a
 |_::l,i+1=>nth l i
def put(fr:Fr)(dst:Option Tmp)(v:AB):Fr:=
 match dst with
 |some d=>fr.set d v
 |none=>fr
def AB.one:AB→Bool
 | .undef| .agg _| .tuple _=>false
 |_=>true
def AB.cells?:AB→Option (List AB)
 | .undef| .tuple _=>none
 | .agg cs=>some cs
 |v=>some [v]
def OK:Value→AB
 | .bool b=>.bool b
 | .int k n=>.int k n
 | .string s=>.str s.data.toList
 | .pointer none=>.ptr none
 | .slice none 0 0=>.slice none 0
 | .map none=>.map none
 | .chan none=>.chan none
 | .nilFunc=>.nilFunc
 | .nilIface=>.nilIface
 |_=>.undef
def ZL:Value→AB
 | .agg cs=>.agg (cs.toList.map OK)
 | .tuple vs=>.tuple (vs.toList.map OK)
 |v=>OK v
def ev(fr:Fr):Operand→AB
 | .tmp t=>nth fr t
 | .const v=>ZL v
 | .global g=>.Jw g 0
 | .func f=>.func (.func f) [] []
def Ev(cs:List AB)(o:Nat)(new:List AB):List AB:=cs.take o++(new++cs.drop (o+new.length))
section
variable (P:Program)
def CP(t:TypeId):Option Nat:=(P.info? t).map (·.size)
def Jx(t:TypeId):Option Bool:=
 match P.underlying t with
 |some (.struct _)|some (.array _ _)=>some true
 |some _=>some false
 |none=>none
def Cf(ob:Option B0)(o n:Nat):Option (List AB):=
 match ob with
 |some (.cells _ st cs)=>if st≠0∧o+n≤cs.length then some ((cs.drop o).take n)else none
 |_=>none
def Ha(ob:Option B0)(t:TypeId)(o:Nat):Option AB:=
 match Jx P t with
 |some true=>(CP P t).bind fun n=>(Cf ob o n).map .agg
 |some false=>
  match Cf ob o 1 with
  |some [v]=>some v
  |_=>none
 |none=>none
def FM:AB→AB
 | .slice _ 0=>.HU 0 []
 |v=>v
def Nl:Option TypeId→List AB→List AB
 |none,l=>l
 |some _,l=>l.map FM
def Cg(g:Gd)(h:AI)(id o:Nat)(new:List AB):Option AI:=
 match h.get id with
 |some (.cells gr 2 cs)=>if g.may id=true∧o+new.length≤cs.length∧new.all AB.one=true then some (h.set id (.cells gr 2 (Ev cs o (Nl gr new))))else none
 |_=>none
def Le(g:Gd)(h:AI)(t:TypeId)(id o:Nat)(v:AB):Option AI:=
 match v.cells?,CP P t with
 |some new,some n=>if new.length=n then Cg g h id o new else none
 |_,_=>none
abbrev Xc:=(Nat→AB)×B0
def O7(v:AB):Option Xc:=
 match v.cells? with
 |some cs=>if cs.all AB.one=true then some (fun n=>.ptr (some (n,0)),.cells none 2 cs)else none
 |none=>none
def JE(t:TypeId):Option AB:=
 match P.info? t with
 |some i=>i.zero.map ZL
 |none=>none
def Ku(place:Nat→Option (Nat×Nat))(cells:List AB):List (Nat×AB)→Option (List AB)
 |[]=>some cells
 |(i,v)::rest=>
  match place i,v.cells? with
  |some (off,size),some new=>if new.length=size∧off+size≤cells.length then Ku place (Ev cells off new) rest else none
  |_,_=>none
def SU(fs:List Field):Option (List (Nat×Nat)):=fs.mapM fun f=>(P.info? f.type).map fun i=>(f.offset,i.size)
def U9(t:TypeId)(parts:List (Nat×AB)):Option AB:=
 match P.underlying t,(JE P t).bind AB.cells? with
 |some (.array _ e),some z=>(CP P e).bind fun n=>(Ku (fun i=>some (i*n,n)) z parts).map .agg
 |some (.struct fs),some z=>(SU P fs.toList).bind fun ps=>(Ku (ps[·]?) z parts).map .agg
 |_,_=>none
def Fa(z:List AB):Nat→List AB
 |0=>[]
 |n+1=>z++Fa z n
def LN(t:TypeId)(len:Nat)(parts:List (Nat×AB)):Option Xc:=
 match P.underlying t with
 | some (.slice e)=>
  match CP P e,(JE P e).bind AB.cells? with
  | some n,some z=>
   if len*n≤16777216∧z.length=n∧n≠0 then
    match Ku (fun i=>some (i*n,n)) (Fa z len) parts with
    |some cs=>if(cs.map FM).all AB.one=true then some (fun n=>.slice (some (n,0)) len,.cells (some e) 2 (cs.map FM))else none
    |none=>none
   else none
  |_,_=>none
 |_=>none
def NA(op:BinOp)(k:IntKind)(a b:Int):Option AB:=
 match op with
 | .add=>some (.int k (k.wrap (a+b)))
 | .sub=>some (.int k (k.wrap (a - b)))
 | .mul=>some (.int k (k.wrap (a*b)))
 | .quo=>if b=0 then none else some (.int k (k.wrap (a.tdiv b)))
 | .rem=>if b=0 then none else some (.int k (a.tmod b))
 | .and=>some (.int k (k.wrap (BitVec.ofInt k.bits a &&& BitVec.ofInt k.bits b).toNat))
 | .or=>some (.int k (k.wrap (BitVec.ofInt k.bits a ||| BitVec.ofInt k.bits b).toNat))
 | .xor=>some (.int k (k.wrap (BitVec.ofInt k.bits a ^^^ BitVec.ofInt k.bits b).toNat))
 | .andNot=>some (.int k (k.wrap (BitVec.ofInt k.bits a &&& ~~~BitVec.ofInt k.bits b).toNat))
 | .eql=>some (.bool (a==b))
 | .neq=>some (.bool (a !=b))
 | .lss=>some (.bool (decide (a<b)))
 | .leq=>some (.bool (decide (a≤b)))
 | .gtr=>some (.bool (decide (a>b)))
 | .geq=>some (.bool (decide (a≥b)))
 |_=>none
def SE(op:BinOp)(k:IntKind)(a b:Int):Option AB:=
 if b<0 then none else
 match op with
 | .shl=>some (.int k (k.wrap (a*2^(min b.toNat k.bits))))
 | .shr=>some (.int k (a.fdiv (2^(min b.toNat k.bits))))
 |_=>none
def SL(op:BinOp)(a b:List UInt8):Option AB:=
 match op with
 | .add=>if a.length+b.length≤9223372036854775807 then some (.str (a++b))else none
 | .eql=>some (.bool (a==b))
 | .neq=>some (.bool !(a==b))
 | .lss=>some (.bool (Op.bytesLess a b))
 | .leq=>some (.bool (Op.bytesLess a b||a==b))
 | .gtr=>some (.bool !(Op.bytesLess a b||a==b))
 | .geq=>some (.bool !(Op.bytesLess a b))
 |_=>none
def E9(t:TypeId)(cs:List AB)(off:Nat):Option AB:=
 match Jx P t with
 |some true=>(CP P t).bind fun n=>if off+n≤cs.length then some (.agg ((cs.drop off).take n))else none
 |some false=>cs[off]?
 |none=>none
def eqFields(eq:TypeId→AB→AB→Option Bool)(xs ys:List AB):List Field→Option Bool
 |[]=>some true
 | f::fs=>
  if f.name="_" then eqFields eq xs ys fs else
  match E9 P f.type xs f.offset,E9 P f.type ys f.offset with
  |some a,some b=>
   match eq f.type a b with
   |some true=>eqFields eq xs ys fs
   |some false=>some false
   |none=>none
  |_,_=>none
def IX(eq:TypeId→AB→AB→Option Bool)(e:TypeId)(z:Nat)(xs ys:List AB):Nat→Nat→Option Bool
 |0,_=>some true
 | n+1,i=>
  match E9 P e xs (i*z),E9 P e ys (i*z)with
  |some a,some b=>
   match eq e a b with
   |some true=>IX eq e z xs ys n (i+1)
   |some false=>some false
   |none=>none
  |_,_=>none
def HT:Nat→TypeId→AB→AB→Option Bool
 |0,_,_,_=>none
 |d+1,t,x,y=>
  match P.underlying t,x,y with
  |some .bool,.bool a,.bool b=>some (a==b)
  |some (.int _),.int k a,.int k' b=>if k=k' then some (a==b)else none
  |some .string,.str a,.str b=>some (a==b)
  |some (.pointer _),.ptr none,.ptr b=>some b.isNone
  |some (.pointer _),.ptr (some _),.ptr none=>some false
  |some (.pointer _),.A0 _,.ptr none=>some false
  |some (.map _ _),.map none,.map b=>some b.isNone
  |some (.map _ _),.map (some _),.map none=>some false
  |some (.func _ _ _),.nilFunc,.nilFunc=>some true
  |some (.func _ _ _),.nilFunc,.func _ _ _=>some false
  |some (.func _ _ _),.func _ _ _,.nilFunc=>some false
  |some (.struct fs),.agg xs,.agg ys=>if P.stoodInHeld t=true then none else eqFields P (HT d) xs ys fs.toList
  |some (.array n e),.agg xs,.agg ys=>(CP P e).bind fun z=>IX P (HT d) e z xs ys n 0
  |_,_,_=>none
def Yt:AB→Bool
 | .bool _| .ptr _| .slice _ _| .map _| .nilFunc| .func _ _ _| .HU _ _| .A0 _=>true
 |_=>false
def SG(op:BinOp)(t:TypeId)(x y:AB):Option AB:=
 match x,y with
 | .int k a,.int k' b=>
  match op with
  | .shl| .shr=>SE op k a b
  |_=>if k=k' then NA op k a b else none
 | .str a,.str b=>SL op a b
 | .agg xs,.agg ys=>
  if P.eqGuardType P.depth t=true then none else
  match op with
  | .eql=>(HT P 10000 t (.agg xs) (.agg ys)).map .bool
  | .neq=>(HT P 10000 t (.agg xs) (.agg ys)).map fun b=>.bool !b
  |_=>none
 | x,y=>
  if Yt x=true then
   match op with
   | .eql=>(HT P 10000 t x y).map .bool
   | .neq=>(HT P 10000 t x y).map fun b=>.bool !b
   |_=>none
  else none
def bC:Operand→Bool
 | .const _=>true
 |_=>false
def cm(op:BinOp)(t:TypeId)(c:Bool):Option AB:=
 match P.underlying t with
 |some (.interface _)=>bif c then(match op with| .eql=>some (.bool true)| .neq=>some (.bool false)|_=>none)else none
 |_=>none
def Rp(op:BinOp)(t:TypeId)(c:Bool)(x y:AB):Option AB:=
 match x,y with
 | .nilIface,.nilIface=>cm P op t c
 |x,y=>SG P op t x y
def eF(op:UnOp)(x:AB):Option AB:=
 match op,x with
 | .neg,.int k n=>NA .sub k 0 n
 | .xor,.int k n=>NA .xor k (if k.signed then -1 else k.max) n
 | .not,.bool b=>some (.bool !b)
 |_,_=>none
def bytesOf:List AB→Option (List UInt8)
 |[]=>some []
 | .int .u8 n::r=>(bytesOf r).map (UInt8.ofNat n.toNat::·)
 |_=>none
def YH(src dst:TypeId)(x:AB):Option AB:=
 match P.underlying src,P.underlying dst,x with
 |some _,some (.int k),.int _ n=>some (.int k (k.wrap n))
 |some _,some .string,.str s=>some (.str s)
 |some _,some .string,.int _ n=>some (.str (Utf8.encode n).data.toList)
 |_,_,_=>none
def XP(src dst:TypeId)(x:AB):Option Xc:=
 match P.underlying src,P.underlying dst,x with
 |some _,some (.slice e),.str s=>
  match P.underlying e,CP P e with
  |some (.int .u8),some 1=>if s.length≤1099511627776 then some (fun n=>.slice (some (n,0)) s.length,.cells (some e) 2 (s.map fun b=>.int .u8 b.toNat))else none
  |_,_=>none
 |_,_,_=>none
def RU(ob:Option B0)(src dst:TypeId)(x:AB):Option AB:=
 match P.underlying src,P.underlying dst,x with
 | some (.slice e),some .string,.slice r n=>
  match P.underlying e with
  |some (.int .u8)=>
   match r with
   |none=>some (.str [])
   |some (_,o)=>if n=0 then some (.str [])else(Cf ob o n).bind fun cs=>(bytesOf cs).map .str
  |_=>none
 |some (.slice e),some .string,.HU n cs=>
  match P.underlying e with
  |some (.int .u8)=>if cs.length=n then(bytesOf cs).map .str else none
  |_=>none
 |_,_,_=>none
def Kp(t:TypeId)(l c:AB):Option Xc:=
 match P.underlying t,l,c with
 | some (.slice e),.int _ l,.int _ c=>
  match P.info? e with
  | some i=>
   match i.zero.map ZL with
   | some z=>
    match z.cells?.map (·.map FM)with
    | some zc=>
     if 0≤l∧l≤c∧c≤1099511627776∧i.bytes*c≤1099511627776∧zc.length=i.size∧zc.all AB.one=true then
      some (fun n=>.slice (some (n,0)) l.toNat,.cells (some e) 2 (Fa zc c.toNat))
     else none
    |none=>none
   |none=>none
  |none=>none
 |_,_,_=>none
def FA(n:Nat)(lo hi:Option AB):Option (Nat×Nat):=
 match hi with
 | some (.int _ u)=>
  if 0≤u∧u≤n then
   match lo with
   |some (.int _ l)=>if 0≤l∧l≤u then some (l.toNat,u.toNat)else none
   |some _=>none
   |none=>some (0,u.toNat)
  else none
 |some _=>none
 |none=>
  match lo with
  |some (.int _ l)=>if 0≤l∧l≤n then some (l.toNat,n)else none
  |some _=>none
  |none=>some (0,n)
def SD(t:TypeId)(x:AB)(lo hi:Option AB):Option AB:=
 match P.underlying t,x with
 |some .string,.str s=>(FA s.length lo hi).map fun(l,u)=>.str ((s.drop l).take (u - l))
 |_,_=>none
def Mq(ob:Option B0)(t:TypeId)(x:AB)(lo hi:Option AB):Option AB:=
 match P.underlying t,x with
 |some (.array n e),.ptr (some (id,o))=>
  match ob with
  |some (.cells none _ _)=>(CP P e).bind fun z=>(FA n lo hi).map fun(l,u)=>.slice (some (id,o+l*z)) (u - l)
  |_=>none
 |some (.slice e),.slice none 0=>(CP P e).bind fun _=>(FA 0 lo hi).map fun _=>.slice none 0
 |some (.slice e),.HU n cs=>(CP P e).bind fun z=>if cs.length=n*z then(FA n lo hi).map fun(l,u)=>.HU (u - l) ((cs.drop (l*z)).take ((u - l)*z))else none
 |some (.slice e),.slice (some (id,o)) n=>
  match ob,CP P e with
  |some (.cells none _ _),some z=>(FA n lo hi).map fun(l,u)=>.slice (some (id,o+l*z)) (u - l)
  |some (.cells (some e') _ _),some z=>if CP P e'=some z then(FA n lo hi).map fun(l,u)=>.slice (some (id,o+l*z)) (u - l)else none
  |_,_=>none
 |_,_=>none
def M9(s:TypeId)(x:AB)(f:Nat):Option AB:=
 match P.underlying s,x with
 | some (.struct fs),.ptr (some (id,o))=>
  match fs[f]? with
  |some fd=>
   match CP P fd.type with
   |some 0=>none
   |some _=>some (.ptr (some (id,o+fd.offset)))
   |none=>none
  |none=>none
 | some (.struct fs),.Jw g o=>
  match fs[f]? with
  |some fd=>
   match CP P fd.type with
   |some 0=>none
   |some _=>some (.Jw g (o+fd.offset))
   |none=>none
  |none=>none
 | some (.struct fs),.A0 cs=>
  match fs[f]? with
  |some fd=>
   match CP P fd.type with
   |some 0=>none
   |some _=>some (.A0 (cs.drop fd.offset))
   |none=>none
  |none=>none
 |_,_=>none
def VJ(s:TypeId)(x:AB)(f:Nat):Option AB:=
 match P.underlying s,x with
 |some (.struct fs),.agg cs=>
  match fs[f]? with
  |some fd=>E9 P fd.type cs fd.offset
  |none=>none
 |_,_=>none
def I1(t:TypeId)(x i:AB):Option AB:=
 match P.underlying t,x,i with
 |some (.array n e),.ptr (some (id,o)),.int _ i=>if 0≤i∧i<n then(CP P e).map fun z=>.ptr (some (id,o+i.toNat*z))else none
 |some (.slice e),.slice (some (id,o)) n,.int _ i=>if 0≤i∧i<n then(CP P e).map fun z=>.ptr (some (id,o+i.toNat*z))else none
 |some (.array n e),.Jw g o,.int _ i=>if 0≤i∧i<n then(CP P e).map fun z=>.Jw g (o+i.toNat*z)else none
 |some (.array n e),.A0 cs,.int _ i=>if 0≤i∧i<n then(CP P e).map fun z=>.A0 (cs.drop (i.toNat*z))else none
 |some (.slice e),.HU n cs,.int _ i=>if 0≤i∧i<n then(CP P e).bind fun z=>if cs.length=n*z∧z≠0 then some (.A0 ((cs.drop (i.toNat*z)).take z))else none else none
 |_,_,_=>none
def Nv(t:TypeId)(x i:AB):Option AB:=
 match P.underlying t,x,i with
 |some (.array n e),.agg cs,.int _ i=>if 0≤i∧i<n then(CP P e).bind fun z=>E9 P e cs (i.toNat*z)else none
 |some .string,.str s,.int _ i=>if 0≤i then(s[i.toNat]?).map fun b=>.int .u8 b.toNat else none
 |_,_,_=>none
def EI(h:AI)(z n:Nat):AB→Option (List AB)
 | .slice (some (id,o)) _=>if n=0 then some []else Cf (h.get id) o (n*z)
 | .slice none _=>if n=0 then some []else none
 | .str s=>if z=1 then some ((s.take n).map fun b=>.int .u8 b.toNat)else none
 | .HU n' cs=>if n≤n'∧cs.length=n'*z then some (cs.take (n*z))else none
 |_=>none
def Pk:AB→Option Nat
 | .slice _ n=>some n
 | .HU n _=>some n
 | .str s=>some s.length
 |_=>none
def J1:TypeDesc→Bool
 | .int _=>false
 |_=>true
def appendCore(g:Gd)(h:AI)(e:TypeId)(i:TypeInfo)(r:Option (Nat×Nat))(sl n:Nat)(x:AB):Option (AB×AI):=
 if n=0 then some (.slice r sl,h)
 else if i.size≠0∧sl+n≤1099511627776∧(sl+n)*i.bytes≤1099511627776∧i.zero.map (·.cells.size)=some i.size then
  match(EI h i.size n x).map (·.map FM),EI h i.size sl (.slice r sl)with
  | some new,some Hr=>
   if (Hr++new).all AB.one=true then
    match r with
    |none=>some (.slice (some (h.size,0)) (sl+n),h.push (.cells (some e) 2 (Hr++new)))
    | some (id,_)=>
     match h.get id with
     |some (.cells (some e') 2 _)=>
      if g.may id=true∧e'=e then some (.slice (some (h.size,0)) (sl+n),(h.set id (.cells (some e') 0 [])).push (.cells (some e) 2 (Hr++new)))
      else none
     |_=>none
   else none
  |_,_=>none
 else none
def Nk(g:Gd)(h:AI)(ts:Array TypeId)(s x:AB):Option (AB×AI):=
 match ts[0]?,ts[1]?,s,Pk x with
 | some st,some xt,.slice r sl,some n=>
  match P.underlying st,P.underlying xt with
  |some (.slice e),some d=>
   match P.info? e with
   |some i=>if J1 d=true then appendCore g h e i r sl n x else none
   |none=>none
  |_,_=>none
 |_,_,_,_=>none
def Sq(g:Gd)(h:AI)(ts:Array TypeId)(d x:AB):Option (AB×AI):=
 match ts[0]?,d,Pk x with
 | some dt,.slice r dl,some sl=>
  match P.underlying dt with
  | some (.slice e)=>
   match CP P e with
   |some z=>
    match EI h z (min sl dl) x,r with
    |some new,some (id,o)=>if min sl dl=0 then some (.int .i64 0,h)else(Cg g h id o new).map fun h'=>(.int .i64 (min sl dl:Nat),h')
    |some _,none=>if min sl dl=0 then some (.int .i64 0,h)else none
    |none,_=>none
   |none=>none
  |_=>none
 |_,_,_=>none
def bW(ts:Array TypeId)(x:AB):Option AB:=
 match ts[0]? with
 |none=>none
 |some t=>
  match P.underlying t,x with
  |some .string,.str s=>some (.int .i64 s.length)
  |some (.array n _),_=>some (.int .i64 n)
  |some (.slice _),.slice _ n=>some (.int .i64 n)
  |some (.slice _),.HU n _=>some (.int .i64 n)
  |_,_=>none
def bG(ob:Option B0)(ts:Array TypeId)(x:AB):Option AB:=
 match ts[0]? with
 |none=>none
 | some t=>
  match P.underlying t,x with
  |some (.map _ _),.map none=>some (.int .i64 0)
  |some (.map _ _),.map (some _)=>
   match ob with
   |some (.map st es)=>if st≠0 then some (.int .i64 es.length)else none
   |_=>none
  |some (.chan _ _),.chan (some _)=>
   match ob with
   |some (.chan _ buf)=>some (.int .i64 buf.length)
   |_=>none
  |_,_=>none
def MB(mx:Bool):AB→List AB→Option AB
 |v,[]=>some v
 | .int k a,.int k' b::r=>if k=k' then MB mx (.int k (if mx then(if b>a then b else a)else(if b<a then b else a))) r else none
 |_,_=>none
def Dd(t:TypeId)(k:AB):List (AB×AB)→Nat→Option (Option (Nat×AB))
 |[],_=>some none
 |(k',v)::es,i=>
  match HT P 10000 t k k' with
  |some true=>some (some (i,v))
  |some false=>Dd t k es (i+1)
  |none=>none
def Fp:Nat→TypeId→AB→Bool
 |0,_,_=>false
 |d+1,t,v=>
  match P.underlying t,v with
  |some (.int _),.int _ _=>true
  |some .string,.str _=>true
  |some .bool,.bool _=>true
  |some (.struct fs),.agg cs=>fs.toList.all (fun f=>f.name !="_"&&(match E9 P f.type cs f.offset with|some x=>Fp d f.type x|none=>false))
  |some (.array n e),.agg cs=>(match CP P e with|some z=>(List.range n).all (fun i=>match E9 P e cs (i*z)with|some x=>Fp d e x|none=>false)|none=>false)
  |_,_=>false
def L1(ob:Option B0)(t:TypeId)(x k:AB)(ok:Bool):Option AB:=
 match P.underlying t,x with
 | some (.map kt et),.map r=>
  if Fp P 20 kt k=true then
   match(match r with|none=>some []|some _=>match ob with|some (.map st es)=>if st≠0 then some es else none|_=>none)with
   |some es=>
    match Dd P kt k es 0 with
    |some (some (_,v))=>some (if ok then .tuple [v,.bool true]else v)
    |some none=>(JE P et).map fun z=>if ok then .tuple [z,.bool false]else z
    |none=>none
   |none=>none
  else none
 |_,_=>none
def PY:AB→AB→Bool
 | .int k a,.int k' b=>decide (k=k')&&a==b
 | .str a,.str b=>a==b
 | .bool a,.bool b=>a==b
 |_,_=>false
def Mc:AB→AB→Bool
 | .agg a,.agg b=>a.length==b.length&&(a.zip b).all fun p=>PY p.1 p.2
 |x,y=>PY x y
def Ig(g:Gd)(h:AI):AB→Option (AB×AI)
 | .slice none 0=>some (.HU 0 [],h)
 | .slice (some (id,0)) n=>
  bif Nat.beq n 0 then some (.HU 0 [],h)else
  match h.get id with
  |some (.cells gr 2 cs)=>bif g.may id then some (.HU n cs,h.set id (.cells gr 0 cs))else none
  |some (.cells _ 0 (c::cs))=>some (.HU n (c::cs),h)
  |_=>none
 |v=>some (v,h)
def Ib(g:Gd)(h:AI)(t:TypeId)(m k v:AB):Option AI:=
 match P.underlying t,m with
 | some (.map kt _),.map (some id)=>
  if Fp P 20 kt k=true∧g.may id=true then
   match h.get id with
   | some (.map 2 es)=>
    match Dd P kt k es 0 with
    |some (some (i,_))=>
     match es[i]? with
     |some (k',_)=>if Mc k' k=true then some (h.set id (.map 2 (es.set i (k,v))))else none
     |none=>none
    |some none=>some (h.set id (.map 2 (es++[(k,v)])))
    |none=>none
   |_=>none
  else none
 |_,_=>none
def GO(g:Gd)(h:AI)(t:TypeId)(m k v:AB):Option AI:=(Ig g h v).bind fun r=>Ib P g r.2 t m k r.1
def MC(g:Gd)(h:AI)(ts:Array TypeId)(m k:AB):Option AI:=
 match ts[0]? with
 |none=>none
 | some t=>
  match P.underlying t,m with
  | some (.map kt _),.map (some id)=>
   if Fp P 20 kt k=true∧g.may id=true then
    match h.get id with
    |some (.map 2 es)=>
     match Dd P kt k es 0 with
     |some (some (i,_))=>some (h.set id (.map 2 (es.eraseIdx i)))
     |some none=>some h
     |none=>none
    |_=>none
   else none
  |_,_=>none
def A4:Op→Nat
 | .move _| .assign _| .pick .. | .build .. | .nilCheck _| .binOp .. | .unOp .. | .makeFunc .. | .fieldAddr .. | .field .. | .indexAddr .. | .index .. | .extract .. =>0
 | .slice t .. =>match P.underlying t with|some .string=>0|_=>1
 | .convert s d _=>
  match P.underlying s,P.underlying d with
  |some (.slice _),some .string=>1
  |some (.slice _),some (.slice _)=>3
  |_,some (.slice _)=>2
  |_,_=>0
 | .load .. | .lookup .. =>1
 | .alloc _| .box .. | .buildSlice .. | .makeMap .. | .makeSlice .. | .range .. | .makeChan .. =>2
 | .call {callee:=.builtin .len,argTypes:=ts,..}=>
  match ts[0]? with
  |some t=>match P.underlying t with|some (.map _ _)=>1|some (.chan _ _)=>1|_=>0
  |none=>0
 | .call {callee:=.builtin .min,..}| .call {callee:=.builtin .max,..}=>0
 |_=>3
def It(fr:Fr):Op→Option AB
 | .move x| .assign x=>some (ev fr x)
 | .pick c a b=>
  match ev fr c with
  | .bool b'=>some (bif b' then ev fr a else ev fr b)
  |_=>none
 | .build t parts=>U9 P t (parts.toList.map fun(i,x)=>(i,ev fr x))
 | .nilCheck x=>
  match ev fr x with
  | .ptr (some r)=>some (.ptr (some r))
  | .Jw g o=>some (.Jw g o)
  | .A0 cs=>some (.A0 cs)
  | .func (.func f) a b=>some (.func (.func f) a b)
  |_=>none
 | .binOp op t x y _=>Rp P op t (bC x||bC y) (ev fr x) (ev fr y)
 | .unOp op _ x=>eF op (ev fr x)
 | .convert s d x=>YH P s d (ev fr x)
 | .makeFunc fn first cap=>some (.func fn (first.toList.map (ev fr)) (cap.toList.map (ev fr)))
 | .slice t x lo hi none=>SD P t (ev fr x) (lo.map (ev fr)) (hi.map (ev fr))
 | .fieldAddr s x f=>M9 P s (ev fr x) f
 | .field s x f=>VJ P s (ev fr x) f
 | .indexAddr t x i=>I1 P t (ev fr x) (ev fr i)
 | .index t x i=>Nv P t (ev fr x) (ev fr i)
 | .extract x i=>
  match ev fr x with
  | .tuple vs=>vs[i]?
  |_=>none
 | .call {callee:=.builtin b,args:=as,argTypes:=ts}=>
  match b,as.toList.map (ev fr)with
  | .len,[x]=>bW P ts x
  | .min,x::r=>MB false x r
  | .max,x::r=>MB true x r
  |_,_=>none
 |_=>none
def E4:AB→Option Nat
 | .ptr (some (id,_))=>some id
 | .slice (some (id,_)) _=>some id
 | .map (some id)=>some id
 | .chan (some id)=>some id
 |_=>none
def Dg(fr:Fr):Op→Option Nat
 | .load _ x=>E4 (ev fr x)
 | .slice _ x _ _ _=>E4 (ev fr x)
 | .convert _ _ x=>E4 (ev fr x)
 | .lookup _ x _ _=>E4 (ev fr x)
 | .call {args:=as,..}=>
  match as.toList with
  |[x]=>E4 (ev fr x)
  |_=>none
 |_=>none
def Kx(G:Nat→Option (List AB))(fr:Fr)(ob:Option B0):Op→Option AB
 | .load t a=>
  match ev fr a with
  | .ptr (some (_,o))=>Ha P ob t o
  | .Jw g o=>Ha P ((G g).map fun cs=>.cells none 1 cs) t o
  | .A0 cs=>Ha P (some (.cells none 1 cs)) t 0
  |_=>none
 | .slice t x lo hi none=>Mq P ob t (ev fr x) (lo.map (ev fr)) (hi.map (ev fr))
 | .convert s d x=>RU P ob s d (ev fr x)
 | .lookup t x k ok=>L1 P ob t (ev fr x) (ev fr k) ok
 | .call {callee:=.builtin .len,args:=as,argTypes:=ts}=>
  match as.toList with
  |[x]=>bG P ob ts (ev fr x)
  |_=>none
 |_=>none
def Qg(fr:Fr):Op→Option Xc
 | .alloc e=>(JE P e).bind O7
 | .box _ x=>O7 (ev fr x)
 | .buildSlice t len parts=>LN P t len (parts.toList.map fun(i,x)=>(i,ev fr x))
 | .convert s d x=>XP P s d (ev fr x)
 | .makeMap _ none=>some (fun n=>.map (some n),.map 2 [])
 | .makeSlice t l c=>Kp P t (ev fr l) (ev fr c)
 | .makeChan t n=>
  match P.underlying t,ev fr n with
  |some (.chan _ e),.int _ n=>
   match P.info? e with
   |some i=>if 0≤n∧n≤1099511627776∧i.bytes*n≤1099511627776 then some (fun k=>.chan (some k),.chan n.toNat [])else none
   |none=>none
  |_,_=>none
 | .range t x=>
  match P.underlying t,ev fr x with
  |some .string,.str s=>some (fun n=>.ptr (some (n,0)),.iter s 0)
  |_,_=>none
 |_=>none
def VZ(g:Gd)(h:AI)(s d:TypeId)(x:AB):Option (AB×AI):=
 match P.underlying s,P.underlying d,x with
 |some (.slice _),some (.slice e),.slice (some (id,o)) n=>
  match P.underlying e,h.get id with
  |some (.int .u8),some (.cells gr 2 cs)=>bif Nat.beq s d&&(g.may id&& !(Nat.beq n 0))then some (.slice (some (id,o)) n,h.set id (.cells gr 2 cs))else none
  |_,_=>none
 |_,_,_=>none
def K0(g:Gd)(h:AI)(fr:Fr):Op→Option (AB×AI)
 | .convert s d x=>VZ P g h s d (ev fr x)
 | .store t a x=>
  match ev fr a with
  | .ptr (some (id,o))=>(Le P g h t id o (ev fr x)).map (.tuple [],·)
  |_=>none
 | .mapUpdate t m k v| .insert t m k v=>(GO P g h t (ev fr m) (ev fr k) (ev fr v)).map (.tuple [],·)
 | .next it true=>
  match ev fr it with
  | .ptr (some (id,0))=>
   match h.get id with
   | some (.iter s pos)=>
    if g.may id=true then
     if pos<s.length then
      some (.tuple [.bool true,.int .i64 pos,.int .i32 (Utf8.decode ⟨⟨s⟩⟩ pos).1],h.set id (.iter s (pos+(Utf8.decode ⟨⟨s⟩⟩ pos).2)))
     else some (.tuple [.bool false],h)
    else none
   |_=>none
  |_=>none
 | .call {callee:=.builtin b,args:=as,argTypes:=ts}=>
  match b,as.toList.map (ev fr)with
  | .append,[s,x]=>Nk P g h ts s x
  | .copy,[d,x]=>Sq P g h ts d x
  | .delete,[m,k]=>(MC P g h ts m k).map (.tuple [],·)
  |_,_=>none
 |_=>none
def IJ(G:Nat→Option (List AB))(g:Gd)(h:AI)(fr:Fr)(op:Op):Option (AB×AI):=
 match A4 P op with
 |0=>(It P fr op).map (·,h)
 | 1=>
  match Dg fr op with
  |none=>(Kx P G fr none op).map (·,h)
  |some id=>
   match h.get id with
   |some ob=>(Kx P G fr (some ob) op).map (·,h)
   |none=>none
 |2=>(Qg P fr op).map fun x=>(x.1 h.size,h.push x.2)
 |_=>K0 P g h fr op
end
structure UH where
 o8:Array Oper
 b:Nat
 o9:Array Oper
 tb:Tmp
 b2:Nat
 Sc:Array Oper
 body:Code
def QW:Code→Option UH
 | .seq (.region _ o8 false) (.block b (.loop (.seq (.region _ o9 false) (.seq (.cond (.tmp tb) .skip (.exit b')) (.block b2 (.seq (.region _ Sc false) body))))))=>bif Nat.beq b b'&& !Nat.beq b b2 then some ⟨o8,b,o9,tb,b2,Sc,body⟩else none
 |_=>none
def YE(o9:Array Oper)(tI tb:Tmp):Option Tmp:=
 match o9.toList with
 |[n,x]=>
  match n.op,n.dst,n.guard,x.op,x.dst,x.guard with
  | .next (.tmp t) false,some tn,none,.extract (.tmp tn') 0,some tb',none=>bif Nat.beq t tI&&Nat.beq tn tn'&&Nat.beq tb tb'&& !Nat.beq tn tI&& !Nat.beq tb tI then some tn else none
  |_,_,_,_,_,_=>none
 |_=>none
def ZI(Sc:Array Oper)(tI:Tmp):Option (Tmp×List Oper):=
 match Sc.toList with
 |n::rest=>
  match n.op,n.dst,n.guard with
  | .entry (.tmp t),some te,none=>bif Nat.beq t tI&& !Nat.beq te tI then some (te,rest)else none
  |_,_,_=>none
 |_=>none
def Sa(n:Nat):AB→Bool
 | .undef| .bool _| .int _ _| .str _| .ptr none| .slice none _| .map none| .nilFunc| .nilIface=>true
 | .ptr (some (i,_))=>Nat.blt i n
 | .slice (some (i,_)) _=>Nat.blt i n
 |_=>false
def JW(n:Nat):AB→Bool
 | .agg cs=>cs.all (Sa n)
 |v=>Sa n v
def Er(ks:List Nat):Nat→Fr→Fr
 |_,[]=>[]
 |i,a::l=>(bif ks.any (Nat.beq i)then a else .undef)::Er ks (i+1) l
def NL(it:Nat):AB→Bool
 | .ptr (some (a,b))=>Nat.beq a it&&Nat.beq b 0
 |_=>false
abbrev RI:=Option (Nat×Option TypeId)
def Df(B:AI)(ob:RI)(cs:List AB):AI:=
 match ob with
 |none=>B
 |some (id,gr)=>B.set id (.cells gr 2 cs)
def OO(n:Nat):RI→Gd
 |none=>⟨n,[]⟩
 |some (id,_)=>⟨0,(List.range n).filter fun k=> !Nat.beq k id⟩
def V9(g:Gd):RI→Bool
 |none=>true
 |some (id,_)=>g.may id
def TJ(h:AI)(fr:Fr):Option Tmp→Option (RI×List AB)
 |none=>some (none,[])
 | some t=>
  match nth fr t with
  | .slice (some (id,_)) _=>
   match h.get id with
   |some (.cells gr 2 cs)=>some (some (id,gr),cs)
   |_=>none
  |_=>none
def Mg:AB→Bool
 | .bool _| .int _ _| .str _=>true
 |_=>false
def Pw(ob:RI)(h:AI):Option (List AB):=
 match ob with
 |none=>some []
 |some (id,gr)=>
  match h.get id with
  |some (.cells gr' 2 cs)=>if gr'=gr∧cs.all Mg=true then some cs else none
  |_=>none
def Qc(ks:List Nat)(n:Nat)(ob:RI)(fr:Fr)(h:AI)(r:Bool):Option (Bool×Fr×List AB):=
 bif (Er ks 0 fr).all (JW n)then(Pw ob h).map fun cs=>(r,Er ks 0 fr,cs)else none
def De{α β:Type}(rnd:α→β→Option (Bool×α)):List β→α→Option (Bool×α)
 |[],a=>some (false,a)
 |p::l,a=>
  match rnd a p with
  |some (false,b)=>De rnd l b
  |r=>r
def QK(ks:List Nat)(n tn tb:Nat):Bool:= !ks.any (Nat.beq tn)&& !ks.any (Nat.beq tb)&&Nat.blt tn n&&Nat.blt tb n
def eW:Type:={d:Prop→Bool // (∀p:Prop,d p=true→p)∧∀p q:Prop,d p=true→(p→q)→d q=true}
def aR:eW:=⟨fun _=>false,fun _ h=>(nomatch h),fun _ _ h=>(nomatch h)⟩
noncomputable def Rn:eW:=⟨fun p=>@decide p (Classical.propDecidable p),fun p h=>@of_decide_eq_true p (Classical.propDecidable p) h,fun p q h k=>@zf q (Classical.propDecidable q) (k (@of_decide_eq_true p (Classical.propDecidable p) h))⟩
structure Gp where
 P:Program
 kind:Nat→Nat
 MR:Nat→Nat→List (Nat×List Nat)
 ext:Nat→Gd→AI→List AB→Option (AB×AI)
 Cx:Nat→Option (List AB):=fun _=>none
 dm:FuncId→Code→Code→Bool:=fun _ _ _=>false
 still:FuncId→List Bool:=fun _=>[]
 XS:FuncId→Nat→Option (List Nat×List Nat×Option Tmp):=fun _ _=>none
 dec:eW:=aR
inductive CI where
 |normal
 |exit (id:Nat)
 |ret
structure Self where
 call:Gd→AI→FuncId→List AB→Option (AB×AI)
 loop:Gd→FuncId→Code→Fr→AI→Option (CI×Fr×AI)
 round:Gd→AI→Nat→List AB→Option (AB×AI)
section
variable (C:Gp) (S:Self)
def BC(g:Gd)(h:AI)(fr:Fr)(op:Op):Option (AB×AI):=
 match op with
 | .call {callee:=.value x,args:=as,..}=>
  match ev fr x with
  | .func (.func f) first cap=>S.call g h f (first++(as.toList.map (ev fr)++cap))
  | .Zf l=>S.round g h l (as.toList.map (ev fr))
  |_=>none
 |op=>IJ C.P C.Cx g h fr op
def CW(ops:Array Oper)(fr:Fr)(o:Oper):Option Bool:=
 match o.guard with
 |none=>some true
 | some (j,want)=>
  match(ops[j]?).bind (·.dst)with
  |none=>some false
  |some d=>
   match nth fr d with
   | .bool b=>some (b==want)
   | .undef=>none
   |_=>some false
def D3(g:Gd)(ops:Array Oper):List Oper→Fr→AI→Option (Fr×AI)
 |[],fr,h=>some (fr,h)
 | o::rest,fr,h=>
  match CW ops fr o with
  |some true=>
   match BC C S g h fr o.op with
   |some (v,h')=>D3 g ops rest (put fr o.dst v) h'
   |none=>none
  |some false=>D3 g ops rest (put fr o.dst (.tuple [])) h
  |none=>none
def IK(tch:List (Nat×Nat))(U:List Nat):List Nat:=tch.filterMap fun(i,id)=>bif U.any (Nat.beq i)then some id else none
def Gn(P:Program)(h:AI)(fr:Fr)(i:Nat)(op:Op)(tch:List (Nat×Nat)):List (Nat×Nat):=
 match A4 P op with
 |1=>match Dg fr op with|some id=>(i,id)::tch|none=>tch
 |2=>(i,h.size)::tch
 |_=>tch
def Xy:AB→AB→Bool
 | .ptr (some (a,b)),.ptr (some (c,d))=>Nat.beq a c&&Nat.beq b d
 | .int k a,.int k' b=>decide (k=k')&&decide (a=b)
 | .bool a,.bool b=>a==b
 | .str a,.str b=>decide (a=b)
 | .HU 0 [],.HU 0 []=>true
 |_,_=>false
def ao(ops:Array Oper)(fr:Fr)(h:AI)(i:Nat):Bool:=
 match ops[i]? with
 | some o=>
  match CW ops fr o with
  |some false=>true
  | some true=>
   match o.dst,Dg fr o.op with
   | some d,some id=>
    Nat.blt d fr.length&&(match h.get id with
     |some ob=>(match Kx C.P C.Cx fr (some ob) o.op with|some v=>Xy v (nth fr d)|none=>false)
     |none=>false)
   |_,_=>false
  |none=>false
 |none=>false
def Oy(ops:Array Oper)(U:List Nat)(fr:Fr)(h:AI):Bool:=U.all fun u=>Nat.blt u 10000||ao C ops fr h (u - 10000)
def CB(g:Gd)(ops:Array Oper):List (Nat×List Nat)→List (Nat×Nat)→Fr→AI→Option (Fr×AI)
 |[],_,fr,h=>some (fr,h)
 | (i,U)::rest,tch,fr,h=>
  match ops[i]? with
  |none=>none
  | some o=>
   match CW ops fr o with
   |some true=>
    match BC C S ⟨g.floor,IK tch U++g.CF⟩ h fr o.op with
    |some (v,h')=>bif Oy C ops U (put fr o.dst v) h' then CB g ops rest (Gn C.P h fr i o.op tch) (put fr o.dst v) h' else none
    |none=>none
   |some false=>CB g ops rest tch (put fr o.dst (.tuple [])) h
   |none=>none
def BU(f:FuncId)(g:Gd):Code→Fr→AI→Option (CI×Fr×AI)
 | .skip,fr,h=>some (.normal,fr,h)
 | .label _,fr,h=>some (.normal,fr,h)
 | .region id ops draw,fr,h=>
  match(bif draw then CB C S g ops (C.MR f id) [] fr h else D3 C S g ops ops.toList fr h)with
  |some (fr',h')=>some (.normal,fr',h')
  |none=>none
 | .seq a b,fr,h=>
  match BU f g a fr h with
  |some (.normal,fr',h')=>BU f g b fr' h'
  |r=>r
 | .cond c a b,fr,h=>
  match ev fr c with
  | .bool true=>BU f g a fr h
  | .bool false=>BU f g b fr h
  |_=>none
 | .block id c,fr,h=>
  match BU f g c fr h with
  |some (.exit i,fr',h')=>bif Nat.beq i id then some (.normal,fr',h')else some (.exit i,fr',h')
  |r=>r
 | .loop c,fr,h=>
  match BU f g c fr h with
  |some (.normal,fr',h')=>S.loop g f c fr' h'
  |r=>r
 | .scope c,fr,h=>BU f g c fr h
 | .exit id,fr,h=>some (.exit id,fr,h)
 | .ret,fr,h=>some (.ret,fr,h)
 |_,_,_=>none
def Y5(_:Gp)(_:Self)(_:Gd)(_:AI)(_:Nat)(_:List AB):Option (AB×AI):=none
def KJ(f:FuncId)(q:UH)(ks rs:List Nat)(it:Nat)(tI te:Tmp)(rest:List Oper)(B:AI)(ob:RI)(σ:Fr×List AB)(p:AB×AB):Option (Bool×Fr×List AB):=
 match D3 C S (OO B.size ob) q.Sc rest (σ.1.set te (.tuple [p.1,p.2])) (Df B ob σ.2)with
 |some (fr2,h2)=>
  match BU C S f (OO B.size ob) q.body fr2 h2 with
  |some (.normal,fr,h)=>bif NL it (nth fr tI)then Qc ks B.size ob fr h false else none
  |some (.exit i,fr,h)=>bif Nat.beq i q.b2&&NL it (nth fr tI)then Qc ks B.size ob fr h false else none
  |some (.ret,fr,h)=>Qc rs B.size ob fr h true
  |none=>none
 |none=>none
def RG(rnd:Fr×List AB→AB×AB→Option (Bool×Fr×List AB))(es:List (AB×AB))(σ:Fr×List AB)(B:AI)(ob:RI):Option (CI×Fr×AI):=
 match De rnd es σ with
 |some (r,fr,cs)=>bif C.dec.1 (∀es',es'.Perm es→De rnd es' σ=some (r,fr,cs))then some (bif r then .ret else .normal,fr,Df B ob cs)else none
 |none=>none
def Oa(f:FuncId)(q:UH)(g:Gd)(ks rs:List Nat)(ot:Option Tmp)(orng:Oper)(fr1:Fr)(h1:AI):Option (CI×Fr×AI):=
 match orng.op,orng.dst,orng.guard with
 | .range tM x,some tI,none=>
  match ev fr1 x,C.P.underlying tM,YE q.o9 tI q.tb,ZI q.Sc tI with
  | .map (some id),some (.map _ _),some tn,some (te,rest)=>
   match h1.get id,TJ h1 fr1 ot with
   | some (.map 2 es),some (ob,cs0)=>
    bif g.may id&&V9 g ob&&(Er ks 0 (fr1.set tI (.ptr (some (h1.size,0))))).all (JW (h1.size+1))&&NL h1.size (nth (Er ks 0 (fr1.set tI (.ptr (some (h1.size,0))))) tI)&&QK ks fr1.length tn q.tb&&cs0.all Mg then
     RG C (KJ C S f q ks rs h1.size tI te rest ((h1.set id (.map 0 [])).push (.cells none 0 [])) ob) es (Er ks 0 (fr1.set tI (.ptr (some (h1.size,0)))),cs0) ((h1.set id (.map 0 [])).push (.cells none 0 [])) ob
    else none
   |_,_=>none
  |_,_,_,_=>none
 |_,_,_=>none
def NI(f:FuncId)(q:UH)(g:Gd)(fr:Fr)(h:AI):Option (CI×Fr×AI):=
 match C.XS f q.b,q.o8.toList.getLast?,D3 C S g q.o8 q.o8.toList.dropLast fr h with
 |some (ks,rs,ot),some orng,some (fr1,h1)=>Oa C S f q g ks rs ot orng fr1 h1
 |_,_,_=>none
def GW(f:FuncId)(g:Gd):Code→Fr→AI→Option (CI×Fr×AI)
 | .seq a b,fr,h=>
  match QW (.seq a b)with
  |some q=>NI C S f q g fr h
  |none=>
   match GW f g a fr h with
   |some (.normal,fr',h')=>GW f g b fr' h'
   |r=>r
 |c,fr,h=>BU C S f g c fr h
def Ht(P:Program)(fr:Fr)(h:AI):ResultVar→Option AB
 | .tmp t=>some (nth fr t)
 | .cell a t=>
  match nth fr a with
  | .ptr (some (id,o))=>Ha P (h.get id) t o
  |_=>none
def Ek(P:Program)(fn:Func)(fr:Fr)(h:AI):Option AB:=
 match fn.results.toList.mapM (Ht P fr h)with
 |some [v]=>some v
 |some vs=>some (.tuple vs)
 |none=>none
def Ff:AB→Bool
 | .bool _| .int _ _| .str _| .ptr none| .slice none _| .map none| .chan none| .nilFunc| .nilIface=>true
 |_=>false
def I5:AB→Bool
 | .agg cs=>cs.all Ff
 |v=>Ff v
def NG:AB→Bool
 | .tuple vs=>vs.all I5
 |v=>I5 v
def Ja(g:Gd)(h:AI)(f:FuncId)(args:List AB):Option (AB×AI):=
 match C.P.funcs[f]? with
 |none=>none
 | some fn=>
  match fn.body with
  |none=>none
  |some c=>
   match BU C S f g c (args++List.replicate (fn.ntmps - args.length) (.tuple [])) h with
   |some (.normal,fr,h')=>(Ek C.P fn fr h').map (·,h')
   |some (.ret,fr,h')=>(Ek C.P fn fr h').map (·,h')
   |_=>none
def QB(g:Gd)(h:AI)(f:FuncId)(args:List AB):Option (AB×AI):=
 match C.P.funcs[f]? with
 |none=>none
 | some fn=>
  match fn.body with
  |none=>none
  |some c=>
   match GW C S f g c (args++List.replicate (fn.ntmps - args.length) (.tuple [])) h with
   |some (.normal,fr,h')=>(Ek C.P fn fr h').map (·,h')
   |some (.ret,fr,h')=>(Ek C.P fn fr h').map (·,h')
   |_=>none
def Nt(f:AI→AB→Option (AB×AI)):List AB→AI→Option (List AB×AI)
 |[],h=>some ([],h)
 |v::vs,h=>
  match f h v with
  |some (v',h1)=>(Nt f vs h1).map fun r=>(v'::r.1,r.2)
  |none=>none
def OM(g:Gd)(h:AI):AB→Option (AB×AI)
 | .agg cs=>(Nt (Ig g) cs h).map fun r=>(.agg r.1,r.2)
 |v=>Ig g h v
def Ov(g:Gd)(h:AI):AB→Option (AB×AI)
 | .tuple vs=>(Nt (OM g) vs h).map fun r=>(.tuple r.1,r.2)
 |v=>OM g h v
def R5:AB→AB
 | .agg cs=>.agg (cs.map FM)
 |v=>FM v
def BA:List Bool→List AB→List AB
 |true::bs,v::vs=>R5 v::BA bs vs
 |false::bs,v::vs=>v::BA bs vs
 |_,vs=>vs
def Jn(g:Gd)(h:AI)(f:FuncId)(args:List AB):Option (AB×AI):=
 match C.kind f with
 |1=>Ja C S g h f (BA (C.still f) args)
 |2=>
  match Ja C S ⟨h.size,[]⟩ h f args with
  |some (v,_)=>bif NG v then some (v,h)else none
  |none=>none
 |3=>C.ext f g h args
 | 4=>
  bif args.all I5 then
   match Ja C S ⟨0,[]⟩ ⟨0,.leaf⟩ f args with
   |some (v,_)=>bif NG v then some (v,h)else none
   |none=>none
  else none
 |7=>
  match Ja C S g h f (BA (C.still f) args)with
  |some (v,h')=>Ov g h' v
  |none=>none
 |10=>QB C S g h f (BA (C.still f) args)
 |11=>
  match Nt (OM g) args h with
  |some (args',h1)=>Ja C S g h1 f args'
  |none=>none
 |_=>none
end
def DL(C:Gp):Nat→Self
 |0=>⟨fun _ _ _ _=>none,fun _ _ _ _ _=>none,fun _ _ _ _=>none⟩
 |n+1=>⟨Jn C (DL C n),fun g f c=>BU C (DL C n) f g (.loop c),Y5 C (DL C n)⟩
def dH(C:Gp)(n:Nat)(g:Gd)(h:AI)(f:FuncId)(args:List AB):Option (AB×AI):=(DL C n).call g h f args
end Go.Av
