/-
 A part.
-/
import Derived.Calls
set_option linter.unusedSimpArgs false
namespace Go.Av
set_option linter.defProp false
def za:=@Option.bind_some
def zb:=@Nat.le_of_ble_eq_true
def zd:=@Option.some.injEq
def ze:=@Prod.mk.injEq
def zf:=@Option.map_some
def zg:=@Bool.and_eq_true
def zh:=@Option.map_eq_some_iff
def zi:=@Int.eq_ofNat_of_zero_le
def zj:=@if_pos
def zk:=@if_neg
def zl:=@List.getD_eq_getElem?_getD
def zm:=@Array.getD_eq_getD_getElem?
def zo:=@List.mem_append
def zp:=@List.length_set
def zq:=@Nat.le_refl
def zr:=@decide_eq_false_iff_not
def zu:=@Bool.not_eq_true'
def zw:=@List.eq_nil_of_length_eq_zero
def zx:=@decide_eq_true_eq
def zA:=@Int.toNat_natCast
def zB:=@Bool.false_eq_true
def zC:=@List.all_eq_true
def zD:=@List.take_append_drop
def zE:=@Nat.eq_of_beq_eq_true
def zF:=@Int.le_refl
def zG:=@Bool.or_eq_true
def zH:=@List.length_append
def zI:=@Bool.not_true
def zJ:=@Bool.or_eq_false_iff
def zK:=@decide_eq_true
def zL:=@Nat.lt_of_lt_of_le
def zM:=@List.take_of_length_le
def zN:=@decide_eq_false
def zP:=@List.length_cons
def zQ:=@List.mem_of_getElem?
def zR:=@List.append_assoc
def zS:=@beq_eq_false_iff_ne
def zT:=@beq_iff_eq
def zU:=@Nat.mul_le_mul_right
def zV:=@Nat.lt_or_ge
def zW:=@Option.some.inj
def zX:=@List.mem_map
def zY:=@List.drop_eq_getElem_cons
def zZ:=@List.nodup_append
def z0:=@cond_true
def z8:=@List.nil_append
def ya:=@List.length_drop
def yb:=@Nat.zero_le
def yc:=@List.mem_cons_of_mem
def yd:=@List.set_eq_take_append_cons_drop
def ye:=@List.mem_cons
def yf:=@List.length_nil
def yg:=@List.length_singleton
def yh:=@cond_false
def yi:=@Option.getD_some
def yj:=@Nat.add_mul
def yl:=@List.flatMap_cons
def ym:=@Nat.mul_eq_zero
def yn:=@List.length_map
def yo:=@Nat.add_assoc
def yp:=@List.length_take
def yq:=@List.mem_range
def yr:=@List.foldl_cons
def yu:=@Nat.le_trans
def yv:=@Array.length_toList
def yw:=@List.drop_zero
def yx:=@List.mem_flatMap
def yy:=@Bool.not_eq_false'
def yz:=@List.mem_filter
def yA:=@Bool.false_or
def yB:=@Bool.and_eq_false_iff
def yC:=@List.drop_length_add_append
def yD:=@List.take_length_add_append
def yE:=@List.getElem_mem
def yF:=@Nat.le_max_right
def yG:=@List.all_cons
def yH:=@Nat.le_max_left
def yI:=@Nat.blt_eq
def yJ:=@Nat.eq_zero_or_pos
def yK:=@Bool.not_false
def yL:=@Bool.eq_false_iff
def yM:=@List.mem_iff_getElem?
def yN:=@List.singleton_append
def yO:=@Bool.and_eq_false_imp
def yP:=@List.cons_append
def yQ:=@List.map_append
def yR:=@List.append_nil
def yS:=@Nat.beq_refl
def yT:=@List.perm_append_comm_assoc
def yU:=@List.drop_drop
def yV:=@bne_iff_ne
def yW:=@Nat.lt_or_gt_of_ne
def yX:=@List.mem_or_eq_of_mem_set
def yY:=@Array.toList_map
def yZ:=@List.any_eq_true
def qa:=@Nat.add_zero
def qb:=@List.filter_eq_nil_iff
def qc:=@List.drop_eq_nil_of_le
def qd:=@List.nodup_cons
def qe:=@List.length_filter_le
def qf:=@List.mem_of_mem_take
def qg:=@Nat.one_mul
def qh:=@List.take_left
def qi:=@List.mapM_cons
def qj:=@List.drop_succ_cons
def qk:=@List.take_succ_cons
def ql:=@List.map_cons
def qm:=@Array.forIn_toList
def qn:=@List.mem_singleton
def qo:=@List.mem_filterMap
def qp:=@Array.toList_push
def qq:=@List.ext_getElem?
def qr:=@Nat.sub_zero
def qt:=@Nat.zero_add
def qu:=@true_and
def qv:=@Nat.lt_trichotomy
def qw:=@Nat.mod_eq_of_lt
def qx:=@List.filter_cons
def qy:=@List.take_append_of_le_length
def qz:=@List.drop_append_of_le_length
def qA:=@Prod.mk.inj
def qB:=@List.forIn_cons
def qC:=@List.all_append
def qD:=@List.any_append
def qE:=@Nat.min_eq_left
def qF:=@Bool.eq_iff_iff
def qH:=@Array.toList_setIfInBounds
def qJ:=@List.eq_of_mem_replicate
def qK:=@Option.bind_eq_some_iff
def qL:=@List.map_set
def qM:=@Int.le_trans
def qN:=@Nat.succ_mul
def qO:=@List.length_replicate
inductive AD where
 |undef
 |bool (b:Bool)
 |int (k:IntKind) (n:Int)
 |str (s:List UInt8)
 |ptr (r:Option (Nat×Nat))
 |GM (g o:Nat)
 |slice (r:Option (Nat×Nat)) (len:Nat)
 |map (r:Option Nat)
 |chan (r:Option Nat)
 |func (fn:Fn) (first captured:List AD)
 |nilFunc
 |iface (t:TypeId) (v:AD)
 |nilIface
 |agg (cs:List AD)
 |tuple (vs:List AD)
 |JV (n:Nat) (cs:List AD)
 |Ee (cs:List AD)
 |XA (l:Nat)
 deriving Inhabited
inductive Br where
 |cells (grow:Option TypeId) (st:Nat) (cs:List AD)
 |map (st:Nat) (es:List (AD×AD))
 |iter (s:List UInt8) (pos:Nat)
 |loop (st:Nat) (pend:Option Code) (f:FuncId) (fr:List AD) (ps:List Tmp) (a b:Code)
 |chan (cap:Nat) (buf:List AD)
 deriving Inhabited
inductive Tr(α:Type) where
 |leaf
 |node (l:Tr α) (v:Option α) (r:Tr α)
def Tr.get{α:Type}:Tr α->Nat->Option α
 | .leaf,_=>none
 | .node l v r,i=>bif Nat.beq i 0 then v else bif Nat.beq (i%2) 1 then l.get (i / 2)else r.get (i / 2 - 1)
def Tr.set{α:Type}:Nat->Tr α->Nat->α->Tr α
 |0,t,_,_=>t
 |f+1,.leaf,i,x=>bif Nat.beq i 0 then .node .leaf (some x) .leaf else bif Nat.beq (i%2) 1 then .node (Tr.set f .leaf (i / 2) x) none .leaf else .node .leaf none (Tr.set f .leaf (i / 2 - 1) x)
 |f+1,.node l v r,i,x=>bif Nat.beq i 0 then .node l (some x) r else bif Nat.beq (i%2) 1 then .node (Tr.set f l (i / 2) x) v r else .node l v (Tr.set f r (i / 2 - 1) x)
structure AE where
 size:Nat
 tr:Tr Br
def AE.get(h:AE)(i:Nat):Option Br:=bif Nat.blt i h.size then h.tr.get i else none
def AE.set(h:AE)(i:Nat)(o:Br):AE:=⟨h.size,Tr.set (i+1) h.tr i o⟩
def AE.push(h:AE)(o:Br):AE:=⟨h.size+1,Tr.set (h.size+1) h.tr h.size o⟩
structure Gd where
 floor:Nat
 Bs:List Nat
def Gd.may(g:Gd)(id:Nat):Bool:=Nat.ble g.floor id&& !(g.Bs.any (Nat.beq id))
abbrev Fr:=List AD
def nth:List AD->Nat->AD
 |[],_=>.tuple []
 |a::_,0=>a
 |_::l,i+1=>nth l i
def put(fr:Fr)(dst:Option Tmp)(v:AD):Fr:=
 match dst with
 |some d=>fr.set d v
 |none=>fr
def AD.one:AD->Bool
 | .undef| .agg _| .tuple _=>false
 |_=>true
def AD.cells?:AD->Option (List AD)
 | .undef| .tuple _=>none
 | .agg cs=>some cs
 |v=>some [v]
def I3:Value->AD
 | .bool b=>.bool b
 | .int k n=>.int k n
 | .string s=>.str s.data.toList
 | .pointer none=>.ptr none
 | .slice none 0 0=>.slice none 0
 | .map none=>.map none
 | .chan none=>.chan none
 | .nilFunc=>.nilFunc
 | .nilIface=>.nilIface
 |_=>.undef
def Pf:Value->AD
 | .agg cs=>.agg (cs.toList.map I3)
 | .tuple vs=>.tuple (vs.toList.map I3)
 |v=>I3 v
def ev(fr:Fr):Operand->AD
 | .tmp t=>nth fr t
 | .const v=>Pf v
 | .global g=>.GM g 0
 | .func f=>.func (.func f) [] []
def Cu(cs:List AD)(o:Nat)(new:List AD):List AD:=cs.take o++(new++cs.drop (o+new.length))
section
variable (P:Program)
def B9(t:TypeId):Option Nat:=(P.info? t).map (·.size)
def Hi(t:TypeId):Option Bool:=
 match P.underlying t with
 |some (.struct _)|some (.array _ _)=>some true
 |some _=>some false
 |none=>none
def B2(ob:Option Br)(o n:Nat):Option (List AD):=
 match ob with
 |some (.cells _ st cs)=>if st≠0/\o+n<=cs.length then some ((cs.drop o).take n)else none
 |_=>none
def Fi(ob:Option Br)(t:TypeId)(o:Nat):Option AD:=
 match Hi P t with
 |some true=>(B9 P t).bind λn=>(B2 ob o n).map .agg
 |some false=>
  match B2 ob o 1 with
  |some [v]=>some v
  |_=>none
 |none=>none
def By(g:Gd)(h:AE)(id o:Nat)(new:List AD):Option AE:=
 match h.get id with
 |some (.cells gr 2 cs)=>if g.may id=true/\o+new.length<=cs.length/\new.all AD.one=true then some (h.set id (.cells gr 2 (Cu cs o new)))else none
 |_=>none
def HA(g:Gd)(h:AE)(t:TypeId)(id o:Nat)(v:AD):Option AE:=
 match v.cells?,B9 P t with
 |some new,some n=>if new.length=n then By g h id o new else none
 |_,_=>none
abbrev Pz:=(Nat->AD)×Br
def I7(v:AD):Option Pz:=
 match v.cells? with
 |some cs=>if cs.all AD.one=true then some (λn=>.ptr (some (n,0)),.cells none 2 cs)else none
 |none=>none
def GN(t:TypeId):Option AD:=
 match P.info? t with
 |some i=>i.zero.map Pf
 |none=>none
def Hd(place:Nat->Option (Nat×Nat))(cells:List AD):List (Nat×AD)->Option (List AD)
 |[]=>some cells
 |(i,v)::rest=>
  match place i,v.cells? with
  |some (off,size),some new=>if new.length=size/\off+size<=cells.length then Hd place (Cu cells off new) rest else none
  |_,_=>none
def LY(fs:List Field):Option (List (Nat×Nat)):=fs.mapM λf=>(P.info? f.type).map λi=>(f.offset,i.size)
def Mx(t:TypeId)(parts:List (Nat×AD)):Option AD:=
 match P.underlying t,(GN P t).bind AD.cells? with
 |some (.array _ e),some z=>(B9 P e).bind λn=>(Hd (λi=>some (i*n,n)) z parts).map .agg
 |some (.struct fs),some z=>(LY P fs.toList).bind λps=>(Hd (ps[·]?) z parts).map .agg
 |_,_=>none
def Cs(z:List AD):Nat->List AD
 |0=>[]
 |n+1=>z++Cs z n
def IG:AD->AD
 | .slice none 0=>.JV 0 []
 |v=>v
def KR(t:TypeId)(len:Nat)(parts:List (Nat×AD)):Option Pz:=
 match P.underlying t with
 | some (.slice e)=>
  match B9 P e,(GN P e).bind AD.cells? with
  | some n,some z=>
   if len*n<=16777216/\z.length=n/\n≠0 then
    match Hd (λi=>some (i*n,n)) (Cs z len) parts with
    |some cs=>if(cs.map IG).all AD.one=true then some (λn=>.slice (some (n,0)) len,.cells (some e) 2 (cs.map IG))else none
    |none=>none
   else none
  |_,_=>none
 |_=>none
def KD(op:BinOp)(k:IntKind)(a b:Int):Option AD:=
 match op with
 | .add=>some (.int k (k.wrap (a+b)))
 | .sub=>some (.int k (k.wrap (a - b)))
 | .mul=>some (.int k (k.wrap (a*b)))
 | .quo=>if b=0 then none else some (.int k (k.wrap (a.tdiv b)))
 | .rem=>if b=0 then none else some (.int k (a.tmod b))
 | .and=>some (.int k (k.wrap (BitVec.ofInt k.bits a &&& BitVec.ofInt k.bits b).toNat))
 | .or=>some (.int k (k.wrap (BitVec.ofInt k.bits a ||| BitVec.ofInt k.bits b).toNat))
 | .xor=>some (.int k (k.wrap (BitVec.ofInt k.bits a ^^^ BitVec.ofInt k.bits b).toNat))
 | .andNot=>some (.int k (k.wrap (BitVec.ofInt k.bits a &&& ~~~BitVec.ofInt k.bits b).toNat))
 | .eql=>some (.bool (a==b))
 | .neq=>some (.bool (a !=b))
 | .lss=>some (.bool (decide (a<b)))
 | .leq=>some (.bool (decide (a<=b)))
 | .gtr=>some (.bool (decide (a>b)))
 | .geq=>some (.bool (decide (a>=b)))
 |_=>none
def LQ(op:BinOp)(k:IntKind)(a b:Int):Option AD:=
 if b<0 then none else
 match op with
 | .shl=>some (.int k (k.wrap (a*2^(min b.toNat k.bits))))
 | .shr=>some (.int k (a.fdiv (2^(min b.toNat k.bits))))
 |_=>none
def L6(op:BinOp)(a b:List UInt8):Option AD:=
 match op with
 | .add=>if a.length+b.length<=9223372036854775807 then some (.str (a++b))else none
 | .eql=>some (.bool (a==b))
 | .neq=>some (.bool !(a==b))
 | .lss=>some (.bool (Op.bytesLess a b))
 | .leq=>some (.bool (Op.bytesLess a b||a==b))
 | .gtr=>some (.bool !(Op.bytesLess a b||a==b))
 | .geq=>some (.bool !(Op.bytesLess a b))
 |_=>none
def EV(t:TypeId)(cs:List AD)(off:Nat):Option AD:=
 match Hi P t with
 |some true=>(B9 P t).bind λn=>if off+n<=cs.length then some (.agg ((cs.drop off).take n))else none
 |some false=>cs[off]?
 |none=>none
def eqFields(eq:TypeId->AD->AD->Option Bool)(xs ys:List AD):List Field->Option Bool
 |[]=>some true
 | f::fs=>
  if f.name="_" then eqFields eq xs ys fs else
  match EV P f.type xs f.offset,EV P f.type ys f.offset with
  |some a,some b=>
   match eq f.type a b with
   |some true=>eqFields eq xs ys fs
   |some false=>some false
   |none=>none
  |_,_=>none
def GQ(eq:TypeId->AD->AD->Option Bool)(e:TypeId)(z:Nat)(xs ys:List AD):Nat->Nat->Option Bool
 |0,_=>some true
 | n+1,i=>
  match EV P e xs (i*z),EV P e ys (i*z)with
  |some a,some b=>
   match eq e a b with
   |some true=>GQ eq e z xs ys n (i+1)
   |some false=>some false
   |none=>none
  |_,_=>none
def Hb:Nat->TypeId->AD->AD->Option Bool
 |0,_,_,_=>none
 |d+1,t,x,y=>
  match P.underlying t,x,y with
  |some .bool,.bool a,.bool b=>some (a==b)
  |some (.int _),.int k a,.int k' b=>if k=k' then some (a==b)else none
  |some .string,.str a,.str b=>some (a==b)
  |some (.pointer _),.ptr none,.ptr b=>some b.isNone
  |some (.pointer _),.ptr (some _),.ptr none=>some false
  |some (.pointer _),.Ee _,.ptr none=>some false
  |some (.map _ _),.map none,.map b=>some b.isNone
  |some (.map _ _),.map (some _),.map none=>some false
  |some (.func _ _ _),.nilFunc,.nilFunc=>some true
  |some (.func _ _ _),.nilFunc,.func _ _ _=>some false
  |some (.func _ _ _),.func _ _ _,.nilFunc=>some false
  |some (.struct fs),.agg xs,.agg ys=>if P.stoodInHeld t=true then none else eqFields P (Hb d) xs ys fs.toList
  |some (.array n e),.agg xs,.agg ys=>(B9 P e).bind λz=>GQ P (Hb d) e z xs ys n 0
  |_,_,_=>none
def M7:AD->Bool
 | .bool _| .ptr _| .slice _ _| .map _| .nilFunc| .func _ _ _| .JV _ _| .Ee _=>true
 |_=>false
def Nt(op:BinOp)(t:TypeId)(x y:AD):Option AD:=
 match x,y with
 | .int k a,.int k' b=>
  match op with
  | .shl| .shr=>LQ op k a b
  |_=>if k=k' then KD op k a b else none
 | .str a,.str b=>L6 op a b
 | .agg xs,.agg ys=>
  if P.eqGuardType P.depth t=true then none else
  match op with
  | .eql=>(Hb P 10000 t (.agg xs) (.agg ys)).map .bool
  | .neq=>(Hb P 10000 t (.agg xs) (.agg ys)).map λb=>.bool !b
  |_=>none
 | x,y=>
  if M7 x=true then
   match op with
   | .eql=>(Hb P 10000 t x y).map .bool
   | .neq=>(Hb P 10000 t x y).map λb=>.bool !b
   |_=>none
  else none
def WN:Operand->Bool
 | .const _=>true
 |_=>false
def XM(op:BinOp)(t:TypeId)(c:Bool):Option AD:=
 match P.underlying t with
 |some (.interface _)=>bif c then(match op with| .eql=>some (.bool true)| .neq=>some (.bool false)|_=>none)else none
 |_=>none
def RL(op:BinOp)(t:TypeId)(c:Bool)(x y:AD):Option AD:=
 match x,y with
 | .nilIface,.nilIface=>XM P op t c
 |x,y=>Nt P op t x y
def Wn(op:UnOp)(x:AD):Option AD:=
 match op,x with
 | .neg,.int k n=>KD .sub k 0 n
 | .xor,.int k n=>KD .xor k (if k.signed then -1 else k.max) n
 | .not,.bool b=>some (.bool !b)
 |_,_=>none
def bytesOf:List AD->Option (List UInt8)
 |[]=>some []
 | .int .u8 n::r=>(bytesOf r).map (UInt8.ofNat n.toNat::·)
 |_=>none
def Tq(src dst:TypeId)(x:AD):Option AD:=
 match P.underlying src,P.underlying dst,x with
 |some _,some (.int k),.int _ n=>some (.int k (k.wrap n))
 |some _,some .string,.str s=>some (.str s)
 |some _,some .string,.int _ n=>some (.str (Utf8.encode n).data.toList)
 |_,_,_=>none
def Uj(src dst:TypeId)(x:AD):Option Pz:=
 match P.underlying src,P.underlying dst,x with
 |some _,some (.slice e),.str s=>
  match P.underlying e,B9 P e with
  |some (.int .u8),some 1=>if s.length<=1099511627776 then some (λn=>.slice (some (n,0)) s.length,.cells (some e) 2 (s.map λb=>.int .u8 b.toNat))else none
  |_,_=>none
 |_,_,_=>none
def PH(ob:Option Br)(src dst:TypeId)(x:AD):Option AD:=
 match P.underlying src,P.underlying dst,x with
 | some (.slice e),some .string,.slice r n=>
  match P.underlying e with
  |some (.int .u8)=>
   match r with
   |none=>some (.str [])
   |some (_,o)=>if n=0 then some (.str [])else(B2 ob o n).bind λcs=>(bytesOf cs).map .str
  |_=>none
 |some (.slice e),some .string,.JV n cs=>
  match P.underlying e with
  |some (.int .u8)=>if cs.length=n then(bytesOf cs).map .str else none
  |_=>none
 |_,_,_=>none
def GW(t:TypeId)(l c:AD):Option Pz:=
 match P.underlying t,l,c with
 | some (.slice e),.int _ l,.int _ c=>
  match P.info? e with
  | some i=>
   match i.zero.map Pf with
   | some z=>
    match z.cells?.map (·.map IG)with
    | some zc=>
     if 0<=l/\l<=c/\c<=1099511627776/\i.bytes*c<=1099511627776/\zc.length=i.size/\zc.all AD.one=true then
      some (λn=>.slice (some (n,0)) l.toNat,.cells (some e) 2 (Cs zc c.toNat))
     else none
    |none=>none
   |none=>none
  |none=>none
 |_,_,_=>none
def Di(n:Nat)(lo hi:Option AD):Option (Nat×Nat):=
 match hi with
 | some (.int _ u)=>
  if 0<=u/\u<=n then
   match lo with
   |some (.int _ l)=>if 0<=l/\l<=u then some (l.toNat,u.toNat)else none
   |some _=>none
   |none=>some (0,u.toNat)
  else none
 |some _=>none
 |none=>
  match lo with
  |some (.int _ l)=>if 0<=l/\l<=n then some (l.toNat,n)else none
  |some _=>none
  |none=>some (0,n)
def PD(t:TypeId)(x:AD)(lo hi:Option AD):Option AD:=
 match P.underlying t,x with
 |some .string,.str s=>(Di s.length lo hi).map λ(l,u)=>.str ((s.drop l).take (u - l))
 |_,_=>none
def OG(ob:Option Br)(t:TypeId)(x:AD)(lo hi:Option AD):Option AD:=
 match P.underlying t,x with
 |some (.array n e),.ptr (some (id,o))=>
  match ob with
  |some (.cells none _ _)=>(B9 P e).bind λz=>(Di n lo hi).map λ(l,u)=>.slice (some (id,o+l*z)) (u - l)
  |_=>none
 |some (.slice e),.slice none 0=>(B9 P e).bind λ_=>(Di 0 lo hi).map λ_=>.slice none 0
 |some (.slice e),.JV n cs=>(B9 P e).bind λz=>if cs.length=n*z then(Di n lo hi).map λ(l,u)=>.JV (u - l) ((cs.drop (l*z)).take ((u - l)*z))else none
 |some (.slice e),.slice (some (id,o)) n=>
  match ob,B9 P e with
  |some (.cells none _ _),some z=>(Di n lo hi).map λ(l,u)=>.slice (some (id,o+l*z)) (u - l)
  |some (.cells (some e') _ _),some z=>if B9 P e'=some z then(Di n lo hi).map λ(l,u)=>.slice (some (id,o+l*z)) (u - l)else none
  |_,_=>none
 |_,_=>none
def Hu(s:TypeId)(x:AD)(f:Nat):Option AD:=
 match P.underlying s,x with
 | some (.struct fs),.ptr (some (id,o))=>
  match fs[f]? with
  |some fd=>
   match B9 P fd.type with
   |some 0=>none
   |some _=>some (.ptr (some (id,o+fd.offset)))
   |none=>none
  |none=>none
 | some (.struct fs),.GM g o=>
  match fs[f]? with
  |some fd=>
   match B9 P fd.type with
   |some 0=>none
   |some _=>some (.GM g (o+fd.offset))
   |none=>none
  |none=>none
 | some (.struct fs),.Ee cs=>
  match fs[f]? with
  |some fd=>
   match B9 P fd.type with
   |some 0=>none
   |some _=>some (.Ee (cs.drop fd.offset))
   |none=>none
  |none=>none
 |_,_=>none
def NI(s:TypeId)(x:AD)(f:Nat):Option AD:=
 match P.underlying s,x with
 |some (.struct fs),.agg cs=>
  match fs[f]? with
  |some fd=>EV P fd.type cs fd.offset
  |none=>none
 |_,_=>none
def Fa(t:TypeId)(x i:AD):Option AD:=
 match P.underlying t,x,i with
 |some (.array n e),.ptr (some (id,o)),.int _ i=>if 0<=i/\i<n then(B9 P e).map λz=>.ptr (some (id,o+i.toNat*z))else none
 |some (.slice e),.slice (some (id,o)) n,.int _ i=>if 0<=i/\i<n then(B9 P e).map λz=>.ptr (some (id,o+i.toNat*z))else none
 |some (.array n e),.GM g o,.int _ i=>if 0<=i/\i<n then(B9 P e).map λz=>.GM g (o+i.toNat*z)else none
 |some (.array n e),.Ee cs,.int _ i=>if 0<=i/\i<n then(B9 P e).map λz=>.Ee (cs.drop (i.toNat*z))else none
 |some (.slice e),.JV n cs,.int _ i=>if 0<=i/\i<n then(B9 P e).bind λz=>if cs.length=n*z/\z≠0 then some (.Ee ((cs.drop (i.toNat*z)).take z))else none else none
 |_,_,_=>none
def Lh(t:TypeId)(x i:AD):Option AD:=
 match P.underlying t,x,i with
 |some (.array n e),.agg cs,.int _ i=>if 0<=i/\i<n then(B9 P e).bind λz=>EV P e cs (i.toNat*z)else none
 |some .string,.str s,.int _ i=>if 0<=i then(s[i.toNat]?).map λb=>.int .u8 b.toNat else none
 |_,_,_=>none
def Ch(h:AE)(z n:Nat):AD->Option (List AD)
 | .slice (some (id,o)) _=>if n=0 then some []else B2 (h.get id) o (n*z)
 | .slice none _=>if n=0 then some []else none
 | .str s=>if z=1 then some ((s.take n).map λb=>.int .u8 b.toNat)else none
 | .JV n' cs=>if n<=n'/\cs.length=n'*z then some (cs.take (n*z))else none
 |_=>none
def LI:AD->Option Nat
 | .slice _ n=>some n
 | .JV n _=>some n
 | .str s=>some s.length
 |_=>none
def JY:TypeDesc->Bool
 | .int _=>false
 |_=>true
def appendCore(g:Gd)(h:AE)(e:TypeId)(i:TypeInfo)(r:Option (Nat×Nat))(sl n:Nat)(x:AD):Option (AD×AE):=
 if n=0 then some (.slice r sl,h)
 else if i.size≠0/\sl+n<=1099511627776/\(sl+n)*i.bytes<=1099511627776/\i.zero.map (·.cells.size)=some i.size then
  match(Ch h i.size n x).map (·.map IG),Ch h i.size sl (.slice r sl)with
  | some new,some old=>
   if (old++new).all AD.one=true then
    match r with
    |none=>some (.slice (some (h.size,0)) (sl+n),h.push (.cells (some e) 2 (old++new)))
    | some (id,_)=>
     match h.get id with
     |some (.cells (some e') 2 _)=>
      if g.may id=true/\e'=e then some (.slice (some (h.size,0)) (sl+n),(h.set id (.cells (some e') 0 [])).push (.cells (some e) 2 (old++new)))
      else none
     |_=>none
   else none
  |_,_=>none
 else none
def Nn(g:Gd)(h:AE)(ts:Array TypeId)(s x:AD):Option (AD×AE):=
 match ts[0]?,ts[1]?,s,LI x with
 | some st,some xt,.slice r sl,some n=>
  match P.underlying st,P.underlying xt with
  |some (.slice e),some d=>
   match P.info? e with
   |some i=>if JY d=true then appendCore g h e i r sl n x else none
   |none=>none
  |_,_=>none
 |_,_,_,_=>none
def Mo(g:Gd)(h:AE)(ts:Array TypeId)(d x:AD):Option (AD×AE):=
 match ts[0]?,d,LI x with
 | some dt,.slice r dl,some sl=>
  match P.underlying dt with
  | some (.slice e)=>
   match B9 P e with
   |some z=>
    match Ch h z (min sl dl) x,r with
    |some new,some (id,o)=>if min sl dl=0 then some (.int .i64 0,h)else(By g h id o new).map λh'=>(.int .i64 (min sl dl:Nat),h')
    |some _,none=>if min sl dl=0 then some (.int .i64 0,h)else none
    |none,_=>none
   |none=>none
  |_=>none
 |_,_,_=>none
def SJ(ts:Array TypeId)(x:AD):Option AD:=
 match ts[0]? with
 |none=>none
 |some t=>
  match P.underlying t,x with
  |some .string,.str s=>some (.int .i64 s.length)
  |some (.array n _),_=>some (.int .i64 n)
  |some (.slice _),.slice _ n=>some (.int .i64 n)
  |some (.slice _),.JV n _=>some (.int .i64 n)
  |_,_=>none
def Rh(ob:Option Br)(ts:Array TypeId)(x:AD):Option AD:=
 match ts[0]? with
 |none=>none
 | some t=>
  match P.underlying t,x with
  |some (.map _ _),.map none=>some (.int .i64 0)
  |some (.map _ _),.map (some _)=>
   match ob with
   |some (.map st es)=>if st≠0 then some (.int .i64 es.length)else none
   |_=>none
  |some (.chan _ _),.chan (some _)=>
   match ob with
   |some (.chan _ buf)=>some (.int .i64 buf.length)
   |_=>none
  |_,_=>none
def HX(mx:Bool):AD->List AD->Option AD
 |v,[]=>some v
 | .int k a,.int k' b::r=>if k=k' then HX mx (.int k (if mx then(if b>a then b else a)else(if b<a then b else a))) r else none
 |_,_=>none
def FN(t:TypeId)(k:AD):List (AD×AD)->Nat->Option (Option (Nat×AD))
 |[],_=>some none
 |(k',v)::es,i=>
  match Hb P 10000 t k k' with
  |some true=>some (some (i,v))
  |some false=>FN t k es (i+1)
  |none=>none
def G8:Nat->TypeId->AD->Bool
 |0,_,_=>false
 |d+1,t,v=>
  match P.underlying t,v with
  |some (.int _),.int _ _=>true
  |some .string,.str _=>true
  |some .bool,.bool _=>true
  |some (.struct fs),.agg cs=>fs.toList.all (λf=>f.name !="_"&&(match EV P f.type cs f.offset with|some x=>G8 d f.type x|none=>false))
  |some (.array n e),.agg cs=>(match B9 P e with|some z=>(List.range n).all (λi=>match EV P e cs (i*z)with|some x=>G8 d e x|none=>false)|none=>false)
  |_,_=>false
def Lc(ob:Option Br)(t:TypeId)(x k:AD)(ok:Bool):Option AD:=
 match P.underlying t,x with
 | some (.map kt et),.map r=>
  if G8 P 20 kt k=true then
   match(match r with|none=>some []|some _=>match ob with|some (.map st es)=>if st≠0 then some es else none|_=>none)with
   |some es=>
    match FN P kt k es 0 with
    |some (some (_,v))=>some (if ok then .tuple [v,.bool true]else v)
    |some none=>(GN P et).map λz=>if ok then .tuple [z,.bool false]else z
    |none=>none
   |none=>none
  else none
 |_,_=>none
def PN:AD->AD->Bool
 | .int k a,.int k' b=>decide (k=k')&&a==b
 | .str a,.str b=>a==b
 | .bool a,.bool b=>a==b
 |_,_=>false
def Mm:AD->AD->Bool
 | .agg a,.agg b=>a.length==b.length&&(a.zip b).all λp=>PN p.1 p.2
 |x,y=>PN x y
def Ij(g:Gd)(h:AE):AD->Option (AD×AE)
 | .slice none 0=>some (.JV 0 [],h)
 | .slice (some (id,0)) n=>
  bif Nat.beq n 0 then some (.JV 0 [],h)else
  match h.get id with
  |some (.cells gr 2 cs)=>bif g.may id then some (.JV n cs,h.set id (.cells gr 0 cs))else none
  |some (.cells _ 0 (c::cs))=>some (.JV n (c::cs),h)
  |_=>none
 |v=>some (v,h)
def Le(g:Gd)(h:AE)(t:TypeId)(m k v:AD):Option AE:=
 match P.underlying t,m with
 | some (.map kt _),.map (some id)=>
  if G8 P 20 kt k=true/\g.may id=true then
   match h.get id with
   | some (.map 2 es)=>
    match FN P kt k es 0 with
    |some (some (i,_))=>
     match es[i]? with
     |some (k',_)=>if Mm k' k=true then some (h.set id (.map 2 (es.set i (k,v))))else none
     |none=>none
    |some none=>some (h.set id (.map 2 (es++[(k,v)])))
    |none=>none
   |_=>none
  else none
 |_,_=>none
def Ht(g:Gd)(h:AE)(t:TypeId)(m k v:AD):Option AE:=(Ij g h v).bind λr=>Le P g r.2 t m k r.1
def Md(g:Gd)(h:AE)(ts:Array TypeId)(m k:AD):Option AE:=
 match ts[0]? with
 |none=>none
 | some t=>
  match P.underlying t,m with
  | some (.map kt _),.map (some id)=>
   if G8 P 20 kt k=true/\g.may id=true then
    match h.get id with
    |some (.map 2 es)=>
     match FN P kt k es 0 with
     |some (some (i,_))=>some (h.set id (.map 2 (es.eraseIdx i)))
     |some none=>some h
     |none=>none
    |_=>none
   else none
  |_,_=>none
def As:Op->Nat
 | .move _| .assign _| .pick .. | .build .. | .nilCheck _| .binOp .. | .unOp .. | .makeFunc .. | .fieldAddr .. | .field .. | .indexAddr .. | .index .. | .extract .. =>0
 | .slice t .. =>match P.underlying t with|some .string=>0|_=>1
 | .convert s d _=>
  match P.underlying s,P.underlying d with
  |some (.slice _),some .string=>1
  |some (.slice _),some (.slice _)=>3
  |_,some (.slice _)=>2
  |_,_=>0
 | .load .. | .lookup .. =>1
 | .alloc _| .box .. | .buildSlice .. | .makeMap .. | .makeSlice .. | .range .. | .makeChan .. =>2
 | .call {callee:=.builtin .len,argTypes:=ts,..}=>
  match ts[0]? with
  |some t=>match P.underlying t with|some (.map _ _)=>1|some (.chan _ _)=>1|_=>0
  |none=>0
 | .call {callee:=.builtin .min,..}| .call {callee:=.builtin .max,..}=>0
 |_=>3
def Gj(fr:Fr):Op->Option AD
 | .move x| .assign x=>some (ev fr x)
 | .pick c a b=>
  match ev fr c with
  | .bool b'=>some (bif b' then ev fr a else ev fr b)
  |_=>none
 | .build t parts=>Mx P t (parts.toList.map λ(i,x)=>(i,ev fr x))
 | .nilCheck x=>
  match ev fr x with
  | .ptr (some r)=>some (.ptr (some r))
  | .GM g o=>some (.GM g o)
  | .Ee cs=>some (.Ee cs)
  | .func (.func f) a b=>some (.func (.func f) a b)
  |_=>none
 | .binOp op t x y _=>RL P op t (WN x||WN y) (ev fr x) (ev fr y)
 | .unOp op _ x=>Wn op (ev fr x)
 | .convert s d x=>Tq P s d (ev fr x)
 | .makeFunc fn first cap=>some (.func fn (first.toList.map (ev fr)) (cap.toList.map (ev fr)))
 | .slice t x lo hi none=>PD P t (ev fr x) (lo.map (ev fr)) (hi.map (ev fr))
 | .fieldAddr s x f=>Hu P s (ev fr x) f
 | .field s x f=>NI P s (ev fr x) f
 | .indexAddr t x i=>Fa P t (ev fr x) (ev fr i)
 | .index t x i=>Lh P t (ev fr x) (ev fr i)
 | .extract x i=>
  match ev fr x with
  | .tuple vs=>vs[i]?
  |_=>none
 | .call {callee:=.builtin b,args:=asE9,argTypes:=ts}=>
  match b,asE9.toList.map (ev fr)with
  | .len,[x]=>SJ P ts x
  | .min,x::r=>HX false x r
  | .max,x::r=>HX true x r
  |_,_=>none
 |_=>none
def EN:AD->Option Nat
 | .ptr (some (id,_))=>some id
 | .slice (some (id,_)) _=>some id
 | .map (some id)=>some id
 | .chan (some id)=>some id
 |_=>none
def Cm(fr:Fr):Op->Option Nat
 | .load _ x=>EN (ev fr x)
 | .slice _ x _ _ _=>EN (ev fr x)
 | .convert _ _ x=>EN (ev fr x)
 | .lookup _ x _ _=>EN (ev fr x)
 | .call {args:=asE9,..}=>
  match asE9.toList with
  |[x]=>EN (ev fr x)
  |_=>none
 |_=>none
def Iq(G:Nat->Option (List AD))(fr:Fr)(ob:Option Br):Op->Option AD
 | .load t a=>
  match ev fr a with
  | .ptr (some (_,o))=>Fi P ob t o
  | .GM g o=>Fi P ((G g).map λcs=>.cells none 1 cs) t o
  | .Ee cs=>Fi P (some (.cells none 1 cs)) t 0
  |_=>none
 | .slice t x lo hi none=>OG P ob t (ev fr x) (lo.map (ev fr)) (hi.map (ev fr))
 | .convert s d x=>PH P ob s d (ev fr x)
 | .lookup t x k ok=>Lc P ob t (ev fr x) (ev fr k) ok
 | .call {callee:=.builtin .len,args:=asE9,argTypes:=ts}=>
  match asE9.toList with
  |[x]=>Rh P ob ts (ev fr x)
  |_=>none
 |_=>none
def L1(fr:Fr):Op->Option Pz
 | .alloc e=>(GN P e).bind I7
 | .box _ x=>I7 (ev fr x)
 | .buildSlice t len parts=>KR P t len (parts.toList.map λ(i,x)=>(i,ev fr x))
 | .convert s d x=>Uj P s d (ev fr x)
 | .makeMap _ none=>some (λn=>.map (some n),.map 2 [])
 | .makeSlice t l c=>GW P t (ev fr l) (ev fr c)
 | .makeChan t n=>
  match P.underlying t,ev fr n with
  |some (.chan _ e),.int _ n=>
   match P.info? e with
   |some i=>if 0<=n/\n<=1099511627776/\i.bytes*n<=1099511627776 then some (λk=>.chan (some k),.chan n.toNat [])else none
   |none=>none
  |_,_=>none
 | .range t x=>
  match P.underlying t,ev fr x with
  |some .string,.str s=>some (λn=>.ptr (some (n,0)),.iter s 0)
  |_,_=>none
 |_=>none
def SP(g:Gd)(h:AE)(s d:TypeId)(x:AD):Option (AD×AE):=
 match P.underlying s,P.underlying d,x with
 |some (.slice _),some (.slice e),.slice (some (id,o)) n=>
  match P.underlying e,h.get id with
  |some (.int .u8),some (.cells gr 2 cs)=>bif Nat.beq s d&&(g.may id&& !(Nat.beq n 0))then some (.slice (some (id,o)) n,h.set id (.cells gr 2 cs))else none
  |_,_=>none
 |_,_,_=>none
def Ib(g:Gd)(h:AE)(fr:Fr):Op->Option (AD×AE)
 | .convert s d x=>SP P g h s d (ev fr x)
 | .store t a x=>
  match ev fr a with
  | .ptr (some (id,o))=>(HA P g h t id o (ev fr x)).map (.tuple [],·)
  |_=>none
 | .mapUpdate t m k v| .insert t m k v=>(Ht P g h t (ev fr m) (ev fr k) (ev fr v)).map (.tuple [],·)
 | .next it true=>
  match ev fr it with
  | .ptr (some (id,0))=>
   match h.get id with
   | some (.iter s pos)=>
    if g.may id=true then
     if pos<s.length then
      some (.tuple [.bool true,.int .i64 pos,.int .i32 (Utf8.decode ⟨⟨s⟩⟩ pos).1],h.set id (.iter s (pos+(Utf8.decode ⟨⟨s⟩⟩ pos).2)))
     else some (.tuple [.bool false],h)
    else none
   |_=>none
  |_=>none
 | .call {callee:=.builtin b,args:=asE9,argTypes:=ts}=>
  match b,asE9.toList.map (ev fr)with
  | .append,[s,x]=>Nn P g h ts s x
  | .copy,[d,x]=>Mo P g h ts d x
  | .delete,[m,k]=>(Md P g h ts m k).map (.tuple [],·)
  |_,_=>none
 |_=>none
def Gn(G:Nat->Option (List AD))(g:Gd)(h:AE)(fr:Fr)(op:Op):Option (AD×AE):=
 match As P op with
 |0=>(Gj P fr op).map (·,h)
 | 1=>
  match Cm fr op with
  |none=>(Iq P G fr none op).map (·,h)
  |some id=>
   match h.get id with
   |some ob=>(Iq P G fr (some ob) op).map (·,h)
   |none=>none
 |2=>(L1 P fr op).map λx=>(x.1 h.size,h.push x.2)
 |_=>Ib P g h fr op
end
structure Gf where
 P:Program
 kind:Nat->Nat
 Ky:Nat->Nat->List (Nat×List Nat)
 ext:Nat->Gd->AE->List AD->Option (AD×AE)
 C4:Nat->Option (List AD):=λ_=>none
 X6:FuncId->Code->Code->Bool:=λ_ _ _=>false
 still:FuncId->List Bool:=λ_=>[]
inductive DF where
 |normal
 |exit (id:Nat)
 |ret
structure Self where
 call:Gd->AE->FuncId->List AD->Option (AD×AE)
 loop:Gd->FuncId->Code->Fr->AE->Option (DF×Fr×AE)
 round:Gd->AE->Nat->List AD->Option (AD×AE)
section
variable (C:Gf) (S:Self)
def BI(g:Gd)(h:AE)(fr:Fr)(op:Op):Option (AD×AE):=
 match op with
 | .call {callee:=.value x,args:=asE9,..}=>
  match ev fr x with
  | .func (.func f) first cap=>S.call g h f (first++(asE9.toList.map (ev fr)++cap))
  | .XA l=>S.round g h l (asE9.toList.map (ev fr))
  |_=>none
 |op=>Gn C.P C.C4 g h fr op
def Bp(ops:Array Oper)(fr:Fr)(o:Oper):Option Bool:=
 match o.guard with
 |none=>some true
 | some (j,want)=>
  match(ops[j]?).bind (·.dst)with
  |none=>some false
  |some d=>
   match nth fr d with
   | .bool b=>some (b==want)
   | .undef=>none
   |_=>some false
def EF(g:Gd)(ops:Array Oper):List Oper->Fr->AE->Option (Fr×AE)
 |[],fr,h=>some (fr,h)
 | o::rest,fr,h=>
  match Bp ops fr o with
  |some true=>
   match BI C S g h fr o.op with
   |some (v,h')=>EF g ops rest (put fr o.dst v) h'
   |none=>none
  |some false=>EF g ops rest (put fr o.dst (.tuple [])) h
  |none=>none
def FQ(tch:List (Nat×Nat))(U:List Nat):List Nat:=tch.filterMap λ(i,id)=>bif U.any (Nat.beq i)then some id else none
def EE(P:Program)(h:AE)(fr:Fr)(i:Nat)(op:Op)(tch:List (Nat×Nat)):List (Nat×Nat):=
 match As P op with
 |1=>match Cm fr op with|some id=>(i,id)::tch|none=>tch
 |2=>(i,h.size)::tch
 |_=>tch
def T2:AD->AD->Bool
 | .ptr (some (a,b)),.ptr (some (c,d))=>Nat.beq a c&&Nat.beq b d
 | .int k a,.int k' b=>decide (k=k')&&decide (a=b)
 | .bool a,.bool b=>a==b
 | .str a,.str b=>decide (a=b)
 | .JV 0 [],.JV 0 []=>true
 |_,_=>false
def Vw(ops:Array Oper)(fr:Fr)(h:AE)(i:Nat):Bool:=
 match ops[i]? with
 | some o=>
  match Bp ops fr o with
  |some false=>true
  | some true=>
   match o.dst,Cm fr o.op with
   | some d,some id=>
    Nat.blt d fr.length&&(match h.get id with
     |some ob=>(match Iq C.P C.C4 fr (some ob) o.op with|some v=>T2 v (nth fr d)|none=>false)
     |none=>false)
   |_,_=>false
  |none=>false
 |none=>false
def Ow(ops:Array Oper)(U:List Nat)(fr:Fr)(h:AE):Bool:=U.all λu=>Nat.blt u 10000||Vw C ops fr h (u - 10000)
def Bl(g:Gd)(ops:Array Oper):List (Nat×List Nat)->List (Nat×Nat)->Fr->AE->Option (Fr×AE)
 |[],_,fr,h=>some (fr,h)
 | (i,U)::rest,tch,fr,h=>
  match ops[i]? with
  |none=>none
  | some o=>
   match Bp ops fr o with
   |some true=>
    match BI C S ⟨g.floor,FQ tch U++g.Bs⟩ h fr o.op with
    |some (v,h')=>bif Ow C ops U (put fr o.dst v) h' then Bl g ops rest (EE C.P h fr i o.op tch) (put fr o.dst v) h' else none
    |none=>none
   |some false=>Bl g ops rest tch (put fr o.dst (.tuple [])) h
   |none=>none
def BF(f:FuncId)(g:Gd):Code->Fr->AE->Option (DF×Fr×AE)
 | .skip,fr,h=>some (.normal,fr,h)
 | .label _,fr,h=>some (.normal,fr,h)
 | .region id ops draw,fr,h=>
  match(bif draw then Bl C S g ops (C.Ky f id) [] fr h else EF C S g ops ops.toList fr h)with
  |some (fr',h')=>some (.normal,fr',h')
  |none=>none
 | .seq a b,fr,h=>
  match BF f g a fr h with
  |some (.normal,fr',h')=>BF f g b fr' h'
  |r=>r
 | .cond c a b,fr,h=>
  match ev fr c with
  | .bool true=>BF f g a fr h
  | .bool false=>BF f g b fr h
  |_=>none
 | .block id c,fr,h=>
  match BF f g c fr h with
  |some (.exit i,fr',h')=>bif Nat.beq i id then some (.normal,fr',h')else some (.exit i,fr',h')
  |r=>r
 | .loop c,fr,h=>
  match BF f g c fr h with
  |some (.normal,fr',h')=>S.loop g f c fr' h'
  |r=>r
 | .scope c,fr,h=>BF f g c fr h
 | .exit id,fr,h=>some (.exit id,fr,h)
 | .ret,fr,h=>some (.ret,fr,h)
 |_,_,_=>none
def T5(_:Gf)(_:Self)(_:Gd)(_:AE)(_:Nat)(_:List AD):Option (AD×AE):=none
def Fb(P:Program)(fr:Fr)(h:AE):ResultVar->Option AD
 | .tmp t=>some (nth fr t)
 | .cell a t=>
  match nth fr a with
  | .ptr (some (id,o))=>Fi P (h.get id) t o
  |_=>none
def FY(P:Program)(fn:Func)(fr:Fr)(h:AE):Option AD:=
 match fn.results.toList.mapM (Fb P fr h)with
 |some [v]=>some v
 |some vs=>some (.tuple vs)
 |none=>none
def Fq:AD->Bool
 | .bool _| .int _ _| .str _| .ptr none| .slice none _| .map none| .chan none| .nilFunc| .nilIface=>true
 |_=>false
def HS:AD->Bool
 | .agg cs=>cs.all Fq
 |v=>Fq v
def Gk(g:Gd)(h:AE)(f:FuncId)(args:List AD):Option (AD×AE):=
 match C.P.funcs[f]? with
 |none=>none
 | some fn=>
  match fn.body with
  |none=>none
  |some c=>
   match BF C S f g c (args++List.replicate (fn.ntmps - args.length) (.tuple [])) h with
   |some (.normal,fr,h')=>(FY C.P fn fr h').map (·,h')
   |some (.ret,fr,h')=>(FY C.P fn fr h').map (·,h')
   |_=>none
def Ny(f:AE->AD->Option (AD×AE)):List AD->AE->Option (List AD×AE)
 |[],h=>some ([],h)
 |v::vs,h=>
  match f h v with
  |some (v',h1)=>(Ny f vs h1).map λr=>(v'::r.1,r.2)
  |none=>none
def N9(g:Gd)(h:AE):AD->Option (AD×AE)
 | .agg cs=>(Ny (Ij g) cs h).map λr=>(.agg r.1,r.2)
 |v=>Ij g h v
def Pd(g:Gd)(h:AE):AD->Option (AD×AE)
 | .tuple vs=>(Ny (N9 g) vs h).map λr=>(.tuple r.1,r.2)
 |v=>N9 g h v
def VA(g:Gd)(h:AE):AD->Option (AD×AE)
 | .ptr (some (id,0))=>
  match h.get id with
  |some (.cells none 2 cs)=>bif g.may id then(Ny (Ij g) cs (h.set id (.cells none 0 cs))).map λr=>(.Ee r.1,r.2)else none
  |_=>none
 |v=>N9 g h v
def W9(g:Gd)(h:AE):AD->Option (AD×AE)
 | .tuple vs=>(Ny (VA g) vs h).map λr=>(.tuple r.1,r.2)
 |v=>VA g h v
def UF:AD->AD
 | .agg cs=>.agg (cs.map IG)
 |v=>IG v
def CB:List Bool->List AD->List AD
 |true::bs,v::vs=>UF v::CB bs vs
 |false::bs,v::vs=>v::CB bs vs
 |_,vs=>vs
def HT(g:Gd)(h:AE)(f:FuncId)(args:List AD):Option (AD×AE):=
 match C.kind f with
 |1=>Gk C S g h f (CB (C.still f) args)
 |3=>C.ext f g h args
 |7=>
  match Gk C S g h f (CB (C.still f) args)with
  |some (v,h')=>Pd g h' v
  |none=>none
 |9=>
  match Gk C S g h f (CB (C.still f) args)with
  |some (v,h')=>W9 g h' v
  |none=>none
 |_=>none
end
def CV(C:Gf):Nat->Self
 |0=>⟨λ_ _ _ _=>none,λ_ _ _ _ _=>none,λ_ _ _ _=>none⟩
 |n+1=>⟨HT C (CV C n),λg f c=>BF C (CV C n) f g (.loop c),T5 C (CV C n)⟩
def Td(C:Gf)(n:Nat)(g:Gd)(h:AE)(f:FuncId)(args:List AD):Option (AD×AE):=(CV C n).call g h f args
end Go.Av
