/-
 A part.
-/
import Derived.Test.YthhonebaoidfgaaGreatDoorAvMono
import Derived.KernelRfl
set_option linter.unusedSimpArgs false
namespace Go.Av
def Has(fr:Fr)(N:Nat)(l:List (Nat×AD)):Prop:=fr.length=N/\∀p∈l,nth fr p.1=p.2
def Yd(fr:Fr)(k:Nat):List (Nat×AD)->AD
 |[]=>nth fr k
 |(i,v)::r=>bif Nat.beq i k then v else Yd fr k r
def VZ(l:List (Nat×AD))(fr:Fr):Nat->Nat->Fr
 |_,0=>[]
 |s,k+1=>Yd fr s l::VZ l fr (s+1) k
def Da(N:Nat)(l:List (Nat×AD))(fr:Fr):Fr:=VZ l fr 0 N
theorem WZ{fr:Fr}{k:Nat}:∀{l:List (Nat×AD)},(∀p∈l,nth fr p.1=p.2)->Yd fr k l=nth fr k
 |[],_=>rfl
 |(i,v)::r,h=>by
  unfold Yd;rw[J9];by_cases e:i=k
  ·rw[zl e,<-e];exact(h (i,v) (by simp)).symm
  ·rw[zj e];exact WZ λp B=>h p (by simp[B])
theorem Ub{fr:Fr}{l:List (Nat×AD)}(h:∀p∈l,nth fr p.1=p.2):∀(k s:Nat),s+k=fr.length->VZ l fr s k=fr.drop s
 |0,s,e=>by
  have:fr.drop s=[]:=qb om;rw[this];rfl
 |k+1,s,e=>by
  have C:s<fr.length:=by omega
  rw[VZ,Ub h k (s+1) om,WZ h,zT C,Ga,zo,List.getElem?_eq_getElem C];rfl
theorem Fx{fr:Fr}{N:Nat}{l:List (Nat×AD)}(H:Has fr N l):Da N l fr=fr:=by
 unfold Da;have e:0+N=fr.length:=by have:=H.1;omega
 rw[Ub H.2 N 0 e,yn]
theorem Has.of_map{fr:Fr}{N:Nat}{out:List (Nat×AD)}(h1:fr.length=N)(h2:out.map (λp=>nth fr p.1)=out.map (·.2)):Has fr N out:=by
 refine⟨h1,?_⟩
 induction out with
 |nil=>intro p B;cases B
 |cons q out ih=>
  simp only[zK,qY]at h2;intro p B;cases B with
  |head=>exact h2.1
  |tail _ B=>exact ih h2.2 p B
theorem Has.less{fr:Fr}{N:Nat}{l:List (Nat×AD)}(H:Has fr N l)(out:List (Nat×AD))(h:∀fr,out.map (λp=>nth (Da N l fr) p.1)=out.map (·.2)):Has fr N out:=by
 have:=h fr;rw[Fx H]at this;exact Has.of_map H.1 this
theorem AJ{α β:Type}{a:Option α}{k:α->Option β}{x:β}(h:a.bind k=some x):∃y,a=some y/\k y=some x:=by
 cases a with
 |none=>cases h
 |some y=>exact⟨y,rfl,h⟩
def Ag{α:Type}(b:Bool)(x y:Option α):Option α:=
 match b with
 |true=>x
 |false=>y
theorem BB{α:Type}{b:Bool}{x y:Option α}{r:α}(h:Ag b x y=some r):(b=true/\x=some r)\/(b=false/\y=some r):=by
 cases b with
 |true=>exact .inl ⟨rfl,h⟩
 |false=>exact .inr ⟨rfl,h⟩
@[simp] theorem Ah {α:Type} (x y:Option α):Ag true x y=x:=rfl
@[simp] theorem AV {α:Type} (x y:Option α):Ag false x y=y:=rfl
def B4{α:Type}(b:Bool)(x:Option α):Option α:=
 match b with
 |true=>x
 |false=>none
theorem Ap{α:Type}{b:Bool}{x:Option α}{r:α}(h:B4 b x=some r):b=true/\x=some r:=by
 cases b with
 |true=>exact⟨rfl,h⟩
 |false=>cases h
@[simp] theorem BR {α:Type} (x:Option α):B4 true x=x:=rfl
def Jx{σ ρ:Type}(step:σ->Option (σ⊕ρ)):Nat->σ->Option ρ
 |0,_=>none
 |n+1,s=>
  match step s with
  |some (.inl s')=>Jx step n s'
  |some (.inr r)=>some r
  |none=>none
theorem Ot{σ ρ:Type}{step:σ->Option (σ⊕ρ)}:∀{n m:Nat} {s:σ} {r:ρ},n<=m->Jx step n s=some r->Jx step m s=some r
 |0,_,_,_,_,h=>by cases h
 |n+1,0,_,_,h,_=>by omega
 | n+1,m+1,s,r,hle,h=>by
  unfold Jx at h⊢;cases E:step s with
  |none=>rw[E]at h;cases h
  |some o=>
   rw[E]at h;cases o with
   |inl s'=>exact Ot (Nat.le_of_succ_le_succ hle) h
   |inr r'=>exact h
open Classical in
noncomputable def cY{σ ρ:Type}(step:σ->Option (σ⊕ρ))(s:σ):Option ρ:=
 if h:∃r n,Jx step n s=some r then some (Classical.choose h)else none
@[irreducible] noncomputable def loop {σ ρ:Type} (step:σ->Option (σ⊕ρ)) (s:σ):Option ρ:=
 match Jx step 4611686018427387904 s with
 |some r=>some r
 |none=>cY step s
theorem Ug{σ ρ:Type}{step:σ->Option (σ⊕ρ)}{s:σ}{r:ρ}(h:loop step s=some r):∃n,Jx step n s=some r:=by
 unfold loop at h;split at h
 ·rename_i r' h';cases h;exact⟨_,h'⟩
 ·unfold cY at h;split at h
  ·rename_i D;injection h with h;rw[<-h];exact Classical.choose_spec D
  ·cases h
theorem T3{σ ρ:Type}{step:σ->Option (σ⊕ρ)}{s:σ}{r r':ρ}{n m:Nat}(h:Jx step n s=some r)(hm:Jx step m s=some r'):r=r':=by
 have h1:=Ot (yy n m) h;have h2:=Ot (yq n m) hm;rw[h1]at h2;exact zJ h2
theorem VM{σ ρ:Type}{step:σ->Option (σ⊕ρ)}{s:σ}{r:ρ}{n:Nat}(h:Jx step n s=some r):loop step s=some r:=by
 unfold loop;split
 ·rename_i r' h';rw[T3 h h']
 ·have D:∃r n,Jx step n s=some r:=⟨r,n,h⟩;unfold cY;rw[dif_pos D];obtain⟨m,hm⟩:=Classical.choose_spec D;rw[T3 h hm]
theorem OI{σ ρ:Type}{step:σ->Option (σ⊕ρ)}{s:σ}{r:ρ}(h:step s=some (.inr r)):loop step s=some r:=VM (n:=1) (by simp[Jx,h])
theorem T9{σ ρ:Type}{step:σ->Option (σ⊕ρ)}{s s':σ}{r:ρ}(h:step s=some (.inl s'))(hr:loop step s'=some r):loop step s=some r:=by
 obtain⟨n,hn⟩:=Ug hr;exact VM (n:=n+1) (by simp[Jx,h,hn])
theorem aG{σ ρ:Type}{step:σ->Option (σ⊕ρ)}(inv:σ->Prop)(μ:σ->Nat)(post:ρ->Prop)
  (E:∀s,inv s->(∃s',step s=some (.inl s')/\inv s'/\μ s'<μ s)\/(∃r,step s=some (.inr r)/\post r)):∀s,inv s->∃r,loop step s=some r/\post r:=by
 have key:∀n s,μ s<n->inv s->∃r,loop step s=some r/\post r:=by
  intro n
  induction n with
  |zero=>intro s h _;omega
  | succ n ih=>
   intro s C hi;rcases E s hi with⟨s',h1,h2,h3⟩|⟨r,h1,h2⟩
   ·obtain⟨r,h4,h5⟩:=ih s' om h2;exact⟨r,T9 h1 h4,h5⟩
   ·exact⟨r,OI h1,h2⟩
 exact λs hi=>key _ s (Nat.lt_succ_self _) hi
structure Sl where
 r:Option (Nat×Nat)
 n:Nat
section
variable (h:AF) (a:Nat×Nat)
def ld1:Option AD:=
 match DG (h.get a.1) a.2 1 with
 |some [v]=>some v
 |_=>none
def GL(n:Nat):Option (List AD):=DG (h.get a.1) a.2 n
end
def nK(k:IntKind):AD->Option Int
 | .int k' n=>if k=k' then some n else none
 |_=>none
def nJ:AD->Option (List UInt8)
 | .str s=>some s
 |_=>none
def nP:AD->Option (Option (Nat×Nat))
 | .ptr p=>some p
 |_=>none
def nQ:AD->Option Sl
 | .slice r n=>some ⟨r,n⟩
 |_=>none
def lC(a:Nat×Nat)(n z:Nat)(i:Int):Option (Nat×Nat):=if 0<=i/\i<n then some (a.1,a.2+i.toNat*z)else none
def kb(s:Sl)(z:Nat)(i:Int):Option (Nat×Nat):=
 match s.r with
 |some a=>lC a s.n z i
 |none=>none
def KE(s:List UInt8)(i:Int):Option Int:=if 0<=i then(s[i.toNat]?).map λb=>(b.toNat:Int)else none
def XB(n:Nat)(lo hi:Option Int):Option (Nat×Nat):=
 match hi with
 | some u=>
  if 0<=u/\u<=n then
   match lo with
   |some l=>if 0<=l/\l<=u then some (l.toNat,u.toNat)else none
   |none=>some (0,u.toNat)
  else none
 |none=>
  match lo with
  |some l=>if 0<=l/\l<=n then some (l.toNat,n)else none
  |none=>some (0,n)
theorem O0(k k':IntKind)(n:Nat)(lo hi:Option Int):GW n (lo.map (.int k ·)) (hi.map (.int k' ·))=XB n lo hi:=by
 cases lo<;>cases hi<;>rfl
def E4(s:List UInt8)(lo hi:Option Int):Option (List UInt8):=(XB s.length lo hi).map λp=>(s.drop p.1).take (p.2 - p.1)
def fP(h:AF)(a:Nat×Nat)(n z:Nat)(lo hi:Option Int):Option Sl:=
 match h.get a.1 with
 |some (.cells none _ _)=>(XB n lo hi).map λp=>⟨some (a.1,a.2+p.1*z),p.2 - p.1⟩
 |_=>none
def nE(P:Program)(h:AF)(s:Sl)(z:Nat)(lo hi:Option Int):Option Sl:=
 match s.r with
 |none=>if s.n=0 then(XB 0 lo hi).map λ_=>⟨none,0⟩else none
 |some a=>
  match h.get a.1 with
  |some (.cells none _ _)=>(XB s.n lo hi).map λp=>⟨some (a.1,a.2+p.1*z),p.2 - p.1⟩
  |some (.cells (some e) _ _)=>if DK P e=some z then(XB s.n lo hi).map λp=>⟨some (a.1,a.2+p.1*z),p.2 - p.1⟩else none
  |_=>none
def lR(h:AF)(s:Sl):Option (List UInt8):=
 match s.r with
 |none=>some []
 |some a=>if s.n=0 then(h.get a.1).map (λ_=>[])else(DG (h.get a.1) a.2 s.n).bind bytesOf
def st(g:Gd)(h:AF)(a:Nat×Nat)(cs:List AD):Option AF:=EK g h a.1 a.2 cs
def kZ(n:Nat)(g:Gd)(h:AF)(a:Nat×Nat)(cs:List AD):Option AF:=if cs.length=n then EK g h a.1 a.2 cs else none
def kf(bytes:Nat)(z:List AD)(l c:Int):Option (List AD):=if 0<=l/\l<=c/\c<=1099511627776/\bytes*c<=1099511627776 then some (G2 z c.toNat)else none
def app(e:TypeId)(sz bytes:Nat)(g:Gd)(h:AF)(s:Sl)(n:Nat)(x:AD):Option (Sl×AF):=
 if n=0 then some (s,h)
 else if s.n+n<=1099511627776/\(s.n+n)*bytes<=1099511627776 then
  match(EG h sz n x).map (·.map GV),EG h sz s.n (.slice s.r s.n)with
  | some new,some JY=>
   if (JY++new).all AD.one=true then
    match s.r with
    |none=>some (⟨some (h.size,0),s.n+n⟩,h.push (.cells (some e) 2 (JY++new)))
    | some a=>
     match h.get a.1 with
     |some (.cells (some e') 2 _)=>
      if g.may a.1=true/\e'=e then some (⟨some (h.size,0),s.n+n⟩,(h.set a.1 (.cells (some e') 0 [])).push (.cells (some e) 2 (JY++new)))
      else none
     |_=>none
   else none
  |_,_=>none
 else none
def nM(sz:Nat)(g:Gd)(h:AF)(d:Sl)(n:Nat)(x:AD):Option (Int×AF):=
 match EG h sz (min n d.n) x with
 |some new=>
  if min n d.n=0 then some (0,h)else
  match d.r with
  |some a=>(EK g h a.1 a.2 new).map λh'=>(((min n d.n:Nat):Int),h')
  |none=>none
 |none=>none
def eO(k:IntKind)(a b:Int):Int:=k.wrap (BitVec.ofInt k.bits a &&& BitVec.ofInt k.bits b).toNat
def dH(k:IntKind)(a b:Int):Int:=k.wrap (BitVec.ofInt k.bits a ||| BitVec.ofInt k.bits b).toNat
def My(k:IntKind)(a b:Int):Int:=k.wrap (a*2^(min b.toNat k.bits))
def cf(k:IntKind)(a b:Int):Int:=a.fdiv (2^(min b.toNat k.bits))
def mx(a b:Int):Int:=if b>a then b else a
def mn(a b:Int):Int:=if b<a then b else a
def P7(ops:Array Oper)(i:Nat):Op:=
 match ops[i]? with
 |some o=>o.op
 |none=>.move (.const (.bool false))
def Ij(ops:Array Oper)(i:Nat):Option Tmp:=
 match ops[i]? with
 |some o=>o.dst
 |none=>none
def runs(ops:Array Oper)(fr:Fr)(i:Nat):Bool:=
 match ops[i]? with
 |some o=>(match DN ops fr o with|some b=>b|none=>false)
 |none=>false
def Y2(ops:Array Oper)(fr:Fr)(i:Nat):Bool:=
 match ops[i]? with
 |some o=>(match DN ops fr o with|some b=> !b|none=>false)
 |none=>false
section
variable (P:Program) (fr:Fr)
def Qa:Op->Option ((Nat×Nat)×Option Nat)
 | .load t x=>
  match ev fr x,La P t with
  | .ptr (some a),some true=>(DK P t).map (a,some ·)
  | .ptr (some a),some false=>some (a,none)
  |_,_=>none
 |_=>none
def LN:Op->Option ((Nat×Nat)×Nat×AD)
 | .store t x y=>
  match ev fr x with
  | .ptr (some a)=>(DK P t).map λn=>(a,n,ev fr y)
  |_=>none
 |_=>none
def kN(op:Op):Option AD:=
 match Bd P op with
 |0=>Ku P fr op
 |_=>none
def iD(op:Op)(k:Nat):Option (AD×Cs):=
 match Bd P op with
 |2=>(TH P fr op).map λx=>(x.1 k,x.2)
 |_=>none
def mA:Op->Option ((Nat×Nat)×Nat×Nat×Int)
 | .indexAddr t x i=>
  match P.underlying t,ev fr x,ev fr i with
  |some (.array n e),.ptr (some a),.int _ i=>(DK P e).map λz=>(a,n,z,i)
  |_,_,_=>none
 |_=>none
def gh:Op->Option (Option (Nat×Nat)×Nat×Nat×Int)
 | .indexAddr t x i=>
  match P.underlying t,ev fr x,ev fr i with
  |some (.slice e),.slice r n,.int _ i=>(DK P e).map λz=>(r,n,z,i)
  |_,_,_=>none
 |_=>none
def gb:Op->Option (List UInt8×Int)
 | .index t x i=>
  match P.underlying t,ev fr x,ev fr i with
  |some .string,.str s,.int _ i=>some (s,i)
  |_,_,_=>none
 |_=>none
def cv:Op->Option (List UInt8×Option AD×Option AD)
 | .slice t x lo hi none=>
  match P.underlying t,ev fr x with
  |some .string,.str s=>some (s,lo.map (ev fr),hi.map (ev fr))
  |_,_=>none
 |_=>none
def cx:Op->Option ((Nat×Nat)×Nat×Nat×Option AD×Option AD)
 | .slice t x lo hi none=>
  match P.underlying t,ev fr x with
  |some (.array n e),.ptr (some a)=>(DK P e).map λz=>(a,n,z,lo.map (ev fr),hi.map (ev fr))
  |_,_=>none
 |_=>none
def cq:Op->Option (Option (Nat×Nat)×Nat)
 | .convert s d x=>
  match P.underlying s,P.underlying d,ev fr x with
  |some (.slice e),some .string,.slice r n=>
   match P.underlying e with
   |some (.int .u8)=>some (r,n)
   |_=>none
  |_,_,_=>none
 |_=>none
def fe:Op->Option (TypeId×Nat×List AD×Int×Int)
 | .makeSlice t l c=>
  match P.underlying t,ev fr l,ev fr c with
  | some (.slice e),.int _ l,.int _ c=>
   match P.info? e with
   | some i=>
    match i.zero.map dm with
    |some z=>
     match z.cells?.map (·.map GV)with
     |some zc=>if zc.length=i.size/\zc.all AD.one=true then some (e,i.bytes,zc,l,c)else none
     |none=>none
    |none=>none
   |none=>none
  |_,_,_=>none
 |_=>none
def Oz:Op->Option (FuncId×List AD)
 | .call {callee:=.value x,args:=asE9,..}=>
  match ev fr x with
  | .func (.func f) first cap=>some (f,first++(asE9.toList.map (ev fr)++cap))
  |_=>none
 |_=>none
def gW:Op->Option (TypeId×Nat×Nat×Option (Nat×Nat)×Nat×Nat×AD)
 | .call {callee:=.builtin .append,args:=asE9,argTypes:=ts}=>
  match asE9.toList.map (ev fr),ts[0]?,ts[1]? with
  | [.slice r sl,x],some st,some xt=>
   match P.underlying st,P.underlying xt,TN x with
   |some (.slice e),some d,some n=>
    match P.info? e with
    |some i=>if Lb d=true/\i.size≠0/\i.zero.map (·.cells.size)=some i.size then some (e,i.size,i.bytes,r,sl,n,x)else none
    |none=>none
   |_,_,_=>none
  |_,_,_=>none
 |_=>none
def mE:Op->Option (Bool×Option (Nat×Nat))
 | .binOp op t x y _=>
  match P.underlying t,ev fr x,ev fr y,op with
  |some (.pointer _),.ptr p,.ptr none,.eql=>some (true,p)
  |some (.pointer _),.ptr p,.ptr none,.neq=>some (false,p)
  |_,_,_,_=>none
 |_=>none
def gL:Op->Option (Bool×IntKind×Int×Int)
 | .binOp op _ x y _=>
  match ev fr x,ev fr y,op with
  | .int k a,.int k' b,.quo=>if k=k' then some (true,k,a,b)else none
  | .int k a,.int k' b,.rem=>if k=k' then some (false,k,a,b)else none
  |_,_,_=>none
 |_=>none
def YI:Op->Option (Bool×IntKind×Int×Int)
 | .binOp op _ x y _=>
  match ev fr x,ev fr y,op with
  | .int k a,.int _ b,.shl=>some (true,k,a,b)
  | .int k a,.int _ b,.shr=>some (false,k,a,b)
  |_,_,_=>none
 |_=>none
def gj:Op->Option (List UInt8×List UInt8)
 | .binOp op _ x y _=>
  match ev fr x,ev fr y,op with
  | .str a,.str b,.add=>some (a,b)
  |_,_,_=>none
 |_=>none
def gX:Op->Option (TypeId×List UInt8)
 | .convert s d x=>
  match P.underlying s,P.underlying d,ev fr x with
  |some .string,some (.slice e),.str t=>
   match P.underlying e,DK P e with
   |some (.int .u8),some 1=>some (e,t)
   |_,_=>none
  |_,_,_=>none
 |_=>none
end
end Go.Av
