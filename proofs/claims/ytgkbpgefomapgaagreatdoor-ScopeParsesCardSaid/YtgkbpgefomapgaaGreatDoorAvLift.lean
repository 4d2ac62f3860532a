/-
 A part.
-/
import Derived.Test.YtgkbpgefomapgaaGreatDoorAvMono
import Derived.KernelRfl
set_option linter.unusedSimpArgs false
namespace Go.Av
def Has(fr:Fr)(N:Nat)(l:List (Nat×AE)):Prop:=fr.length=N/\∀p∈l,nth fr p.1=p.2
def Vl(fr:Fr)(k:Nat):List (Nat×AE)->AE
 |[]=>nth fr k
 |(i,v)::r=>bif Nat.beq i k then v else Vl fr k r
def SO(l:List (Nat×AE))(fr:Fr):Nat->Nat->Fr
 |_,0=>[]
 |s,k+1=>Vl fr s l::SO l fr (s+1) k
def EO(N:Nat)(l:List (Nat×AE))(fr:Fr):Fr:=SO l fr 0 N
theorem TB{fr:Fr}{k:Nat}:∀{l:List (Nat×AE)},(∀p∈l,nth fr p.1=p.2)->Vl fr k l=nth fr k
 |[],_=>rfl
 |(i,v)::r,h=>by
  unfold Vl;rw[Jy];by_cases e:i=k
  ·rw[zk e,<-e];exact(h (i,v) (by simp)).symm
  ·rw[zm e];exact TB λp C=>h p (by simp[C])
theorem Rg{fr:Fr}{l:List (Nat×AE)}(h:∀p∈l,nth fr p.1=p.2):∀(k s:Nat),s+k=fr.length->SO l fr s k=fr.drop s
 |0,s,e=>by
  have:fr.drop s=[]:=qg (by omega);rw[this];rfl
 |k+1,s,e=>by
  have D:s<fr.length:=by omega
  rw[SO,Rg h k (s+1) (by omega),TB h,zE D,Nj,zA,List.getElem?_eq_getElem D];rfl
theorem HU{fr:Fr}{N:Nat}{l:List (Nat×AE)}(H:Has fr N l):EO N l fr=fr:=by
 unfold EO;have e:0+N=fr.length:=by have:=H.1;omega
 rw[Rg H.2 N 0 e,yn]
theorem Has.of_map{fr:Fr}{N:Nat}{out:List (Nat×AE)}(h1:fr.length=N)(B:out.map (λp=>nth fr p.1)=out.map (·.2)):Has fr N out:=by
 refine⟨h1,?_⟩
 induction out with
 |nil=>intro p C;cases C
 |cons q out ih=>
  simp only[yE,qI]at B;intro p C;cases C with
  |head=>exact B.1
  |tail _ C=>exact ih B.2 p C
theorem Has.less{fr:Fr}{N:Nat}{l:List (Nat×AE)}(H:Has fr N l)(out:List (Nat×AE))(h:∀fr,out.map (λp=>nth (EO N l fr) p.1)=out.map (·.2)):Has fr N out:=by
 have:=h fr;rw[HU H]at this;exact Has.of_map H.1 this
theorem AG{α β:Type}{a:Option α}{k:α->Option β}{x:β}(h:a.bind k=some x):∃y,a=some y/\k y=some x:=by
 cases a with
 |none=>cases h
 |some y=>exact⟨y,rfl,h⟩
def Ae{α:Type}(b:Bool)(x y:Option α):Option α:=
 match b with
 |true=>x
 |false=>y
theorem BS{α:Type}{b:Bool}{x y:Option α}{r:α}(h:Ae b x y=some r):(b=true/\x=some r)\/(b=false/\y=some r):=by
 cases b with
 |true=>exact .inl ⟨rfl,h⟩
 |false=>exact .inr ⟨rfl,h⟩
@[simp] theorem Bd {α:Type} (x y:Option α):Ae true x y=x:=rfl
@[simp] theorem Az {α:Type} (x y:Option α):Ae false x y=y:=rfl
def Ds{α:Type}(b:Bool)(x:Option α):Option α:=
 match b with
 |true=>x
 |false=>none
theorem BN{α:Type}{b:Bool}{x:Option α}{r:α}(h:Ds b x=some r):b=true/\x=some r:=by
 cases b with
 |true=>exact⟨rfl,h⟩
 |false=>cases h
@[simp] theorem Gr {α:Type} (x:Option α):Ds true x=x:=rfl
def Jm{σ ρ:Type}(step:σ->Option (σ⊕ρ)):Nat->σ->Option ρ
 |0,_=>none
 |n+1,s=>
  match step s with
  |some (.inl s')=>Jm step n s'
  |some (.inr r)=>some r
  |none=>none
theorem Nc{σ ρ:Type}{step:σ->Option (σ⊕ρ)}:∀{n m:Nat} {s:σ} {r:ρ},n<=m->Jm step n s=some r->Jm step m s=some r
 |0,_,_,_,_,h=>by cases h
 |n+1,0,_,_,h,_=>by omega
 | n+1,m+1,s,r,hle,h=>by
  unfold Jm at h⊢;cases F:step s with
  |none=>rw[F]at h;cases h
  |some o=>
   rw[F]at h;cases o with
   |inl s'=>exact Nc (Nat.le_of_succ_le_succ hle) h
   |inr r'=>exact h
open Classical in
noncomputable def X5{σ ρ:Type}(step:σ->Option (σ⊕ρ))(s:σ):Option ρ:=
 if h:∃r n,Jm step n s=some r then some (Classical.choose h)else none
@[irreducible] noncomputable def loop {σ ρ:Type} (step:σ->Option (σ⊕ρ)) (s:σ):Option ρ:=
 match Jm step 4611686018427387904 s with
 |some r=>some r
 |none=>X5 step s
theorem SQ{σ ρ:Type}{step:σ->Option (σ⊕ρ)}{s:σ}{r:ρ}(h:loop step s=some r):∃n,Jm step n s=some r:=by
 unfold loop at h;split at h
 ·rename_i r' h';cases h;exact⟨_,h'⟩
 ·unfold X5 at h;split at h
  ·rename_i E;injection h with h;rw[<-h];exact Classical.choose_spec E
  ·cases h
theorem Rz{σ ρ:Type}{step:σ->Option (σ⊕ρ)}{s:σ}{r r':ρ}{n m:Nat}(h:Jm step n s=some r)(hm:Jm step m s=some r'):r=r':=by
 have h1:=Nc (yI n m) h;have B:=Nc (yC n m) hm;rw[h1]at B;exact zw B
theorem SR{σ ρ:Type}{step:σ->Option (σ⊕ρ)}{s:σ}{r:ρ}{n:Nat}(h:Jm step n s=some r):loop step s=some r:=by
 unfold loop;split
 ·rename_i r' h';rw[Rz h h']
 ·have E:∃r n,Jm step n s=some r:=⟨r,n,h⟩;unfold X5;rw[dif_pos E];obtain⟨m,hm⟩:=Classical.choose_spec E;rw[Rz h hm]
theorem K8{σ ρ:Type}{step:σ->Option (σ⊕ρ)}{s:σ}{r:ρ}(h:step s=some (.inr r)):loop step s=some r:=SR (n:=1) (by simp[Jm,h])
theorem R8{σ ρ:Type}{step:σ->Option (σ⊕ρ)}{s s':σ}{r:ρ}(h:step s=some (.inl s'))(hr:loop step s'=some r):loop step s=some r:=by
 obtain⟨n,hn⟩:=SQ hr;exact SR (n:=n+1) (by simp[Jm,h,hn])
theorem WC{σ ρ:Type}{step:σ->Option (σ⊕ρ)}(inv:σ->Prop)(μ:σ->Nat)(post:ρ->Prop)
  (F:∀s,inv s->(∃s',step s=some (.inl s')/\inv s'/\μ s'<μ s)\/(∃r,step s=some (.inr r)/\post r)):∀s,inv s->∃r,loop step s=some r/\post r:=by
 have key:∀n s,μ s<n->inv s->∃r,loop step s=some r/\post r:=by
  intro n
  induction n with
  |zero=>intro s h _;omega
  | succ n ih=>
   intro s D hi;rcases F s hi with⟨s',h1,B,h3⟩|⟨r,h1,B⟩
   ·obtain⟨r,h4,h5⟩:=ih s' (by omega) B;exact⟨r,R8 h1 h4,h5⟩
   ·exact⟨r,K8 h1,B⟩
 exact λs hi=>key _ s (Nat.lt_succ_self _) hi
structure Sl where
 r:Option (Nat×Nat)
 n:Nat
section
variable (h:AS) (a:Nat×Nat)
def SW:Option AE:=
 match Dy (h.get a.1) a.2 1 with
 |some [v]=>some v
 |_=>none
def G7(n:Nat):Option (List AE):=Dy (h.get a.1) a.2 n
end
def cg(k:IntKind):AE->Option Int
 | .int k' n=>if k=k' then some n else none
 |_=>none
def cZ:AE->Option (List UInt8)
 | .str s=>some s
 |_=>none
def cc:AE->Option (Option (Nat×Nat))
 | .ptr p=>some p
 |_=>none
def cf:AE->Option Sl
 | .slice r n=>some ⟨r,n⟩
 |_=>none
def YB(a:Nat×Nat)(n z:Nat)(i:Int):Option (Nat×Nat):=if 0<=i/\i<n then some (a.1,a.2+i.toNat*z)else none
def aB(s:Sl)(z:Nat)(i:Int):Option (Nat×Nat):=
 match s.r with
 |some a=>YB a s.n z i
 |none=>none
def IA(s:List UInt8)(i:Int):Option Int:=if 0<=i then(s[i.toNat]?).map λb=>(b.toNat:Int)else none
def VI(n:Nat)(lo hi:Option Int):Option (Nat×Nat):=
 match hi with
 | some u=>
  if 0<=u/\u<=n then
   match lo with
   |some l=>if 0<=l/\l<=u then some (l.toNat,u.toNat)else none
   |none=>some (0,u.toNat)
  else none
 |none=>
  match lo with
  |some l=>if 0<=l/\l<=n then some (l.toNat,n)else none
  |none=>some (0,n)
theorem U8(k k':IntKind)(n:Nat)(lo hi:Option Int):Fg n (lo.map (.int k ·)) (hi.map (.int k' ·))=VI n lo hi:=by
 cases lo<;>cases hi<;>rfl
def I0(s:List UInt8)(lo hi:Option Int):Option (List UInt8):=(VI s.length lo hi).map λp=>(s.drop p.1).take (p.2 - p.1)
def cO(h:AS)(a:Nat×Nat)(n z:Nat)(lo hi:Option Int):Option Sl:=
 match h.get a.1 with
 |some (.cells none _ _)=>(VI n lo hi).map λp=>⟨some (a.1,a.2+p.1*z),p.2 - p.1⟩
 |_=>none
def cV(P:Program)(h:AS)(s:Sl)(z:Nat)(lo hi:Option Int):Option Sl:=
 match s.r with
 |none=>if s.n=0 then(VI 0 lo hi).map λ_=>⟨none,0⟩else none
 |some a=>
  match h.get a.1 with
  |some (.cells none _ _)=>(VI s.n lo hi).map λp=>⟨some (a.1,a.2+p.1*z),p.2 - p.1⟩
  |some (.cells (some e) _ _)=>if Dn P e=some z then(VI s.n lo hi).map λp=>⟨some (a.1,a.2+p.1*z),p.2 - p.1⟩else none
  |_=>none
def bh(h:AS)(s:Sl):Option (List UInt8):=
 match s.r with
 |none=>some []
 |some a=>if s.n=0 then(h.get a.1).map (λ_=>[])else(Dy (h.get a.1) a.2 s.n).bind bytesOf
def st(g:Gd)(h:AS)(a:Nat×Nat)(cs:List AE):Option AS:=Ef g h a.1 a.2 cs
def bI(n:Nat)(g:Gd)(h:AS)(a:Nat×Nat)(cs:List AE):Option AS:=if cs.length=n then Ef g h a.1 a.2 cs else none
def bL(bytes:Nat)(z:List AE)(l c:Int):Option (List AE):=if 0<=l/\l<=c/\c<=1099511627776/\bytes*c<=1099511627776 then some (G2 z c.toNat)else none
def app(e:TypeId)(sz bytes:Nat)(g:Gd)(h:AS)(s:Sl)(n:Nat)(x:AE):Option (Sl×AS):=
 if n=0 then some (s,h)
 else if s.n+n<=1099511627776/\(s.n+n)*bytes<=1099511627776 then
  match(Du h sz n x).map (·.map II),Du h sz s.n (.slice s.r s.n)with
  | some new,some old=>
   if (old++new).all AE.one=true then
    match s.r with
    |none=>some (⟨some (h.size,0),s.n+n⟩,h.push (.cells (some e) 2 (old++new)))
    | some a=>
     match h.get a.1 with
     |some (.cells (some e') 2 _)=>
      if g.may a.1=true/\e'=e then some (⟨some (h.size,0),s.n+n⟩,(h.set a.1 (.cells (some e') 0 [])).push (.cells (some e) 2 (old++new)))
      else none
     |_=>none
   else none
  |_,_=>none
 else none
def cd(sz:Nat)(g:Gd)(h:AS)(d:Sl)(n:Nat)(x:AE):Option (Int×AS):=
 match Du h sz (min n d.n) x with
 |some new=>
  if min n d.n=0 then some (0,h)else
  match d.r with
  |some a=>(Ef g h a.1 a.2 new).map λh'=>(((min n d.n:Nat):Int),h')
  |none=>none
 |none=>none
def Ey(k:IntKind)(a b:Int):Int:=k.wrap (BitVec.ofInt k.bits a &&& BitVec.ofInt k.bits b).toNat
def IW(k:IntKind)(a b:Int):Int:=k.wrap (BitVec.ofInt k.bits a ||| BitVec.ofInt k.bits b).toNat
def ah(k:IntKind)(a b:Int):Int:=k.wrap (BitVec.ofInt k.bits a ^^^ BitVec.ofInt k.bits b).toNat
def Js(k:IntKind)(a b:Int):Int:=k.wrap (a*2^(min b.toNat k.bits))
def HW(k:IntKind)(a b:Int):Int:=a.fdiv (2^(min b.toNat k.bits))
def OS(k:IntKind)(n:Int):Int:=k.wrap (BitVec.ofInt k.bits (if k.signed then -1 else k.max) ^^^ BitVec.ofInt k.bits n).toNat
def mx(a b:Int):Int:=if b>a then b else a
def mn(a b:Int):Int:=if b<a then b else a
def Pr(ops:Array Oper)(i:Nat):Op:=
 match ops[i]? with
 |some o=>o.op
 |none=>.move (.const (.bool false))
def I8(ops:Array Oper)(i:Nat):Option Tmp:=
 match ops[i]? with
 |some o=>o.dst
 |none=>none
def runs(ops:Array Oper)(fr:Fr)(i:Nat):Bool:=
 match ops[i]? with
 |some o=>(match Dm ops fr o with|some b=>b|none=>false)
 |none=>false
def Vs(ops:Array Oper)(fr:Fr)(i:Nat):Bool:=
 match ops[i]? with
 |some o=>(match Dm ops fr o with|some b=> !b|none=>false)
 |none=>false
section
variable (P:Program) (fr:Fr)
def Ow:Op->Option ((Nat×Nat)×Option Nat)
 | .load t x=>
  match ev fr x,Ly P t with
  | .ptr (some a),some true=>(Dn P t).map (a,some ·)
  | .ptr (some a),some false=>some (a,none)
  |_,_=>none
 |_=>none
def Ks:Op->Option ((Nat×Nat)×Nat×AE)
 | .store t x y=>
  match ev fr x with
  | .ptr (some a)=>(Dn P t).map λn=>(a,n,ev fr y)
  |_=>none
 |_=>none
def af(op:Op):Option AE:=
 match Br P op with
 |0=>KZ P fr op
 |_=>none
def aP(op:Op)(k:Nat):Option (AE×Dc):=
 match Br P op with
 |2=>(RC P fr op).map λx=>(x.1 k,x.2)
 |_=>none
def ZD:Op->Option ((Nat×Nat)×Nat×Nat×Int)
 | .indexAddr t x i=>
  match P.underlying t,ev fr x,ev fr i with
  |some (.array n e),.ptr (some a),.int _ i=>(Dn P e).map λz=>(a,n,z,i)
  |_,_,_=>none
 |_=>none
def ZL:Op->Option (Option (Nat×Nat)×Nat×Nat×Int)
 | .indexAddr t x i=>
  match P.underlying t,ev fr x,ev fr i with
  |some (.slice e),.slice r n,.int _ i=>(Dn P e).map λz=>(r,n,z,i)
  |_,_,_=>none
 |_=>none
def Y9:Op->Option (List UInt8×Int)
 | .index t x i=>
  match P.underlying t,ev fr x,ev fr i with
  |some .string,.str s,.int _ i=>some (s,i)
  |_,_,_=>none
 |_=>none
def XO:Op->Option (List UInt8×Option AE×Option AE)
 | .slice t x lo hi none=>
  match P.underlying t,ev fr x with
  |some .string,.str s=>some (s,lo.map (ev fr),hi.map (ev fr))
  |_,_=>none
 |_=>none
def XN:Op->Option (Option (Nat×Nat)×Nat)
 | .convert s d x=>
  match P.underlying s,P.underlying d,ev fr x with
  |some (.slice e),some .string,.slice r n=>
   match P.underlying e with
   |some (.int .u8)=>some (r,n)
   |_=>none
  |_,_,_=>none
 |_=>none
def YJ:Op->Option (TypeId×Nat×List AE×Int×Int)
 | .makeSlice t l c=>
  match P.underlying t,ev fr l,ev fr c with
  | some (.slice e),.int _ l,.int _ c=>
   match P.info? e with
   | some i=>
    match i.zero.map YC with
    |some z=>
     match z.cells?.map (·.map II)with
     |some zc=>if zc.length=i.size/\zc.all AE.one=true then some (e,i.bytes,zc,l,c)else none
     |none=>none
    |none=>none
   |none=>none
  |_,_,_=>none
 |_=>none
def Ni:Op->Option (FuncId×List AE)
 | .call {callee:=.value x,args:=as,..}=>
  match ev fr x with
  | .func (.func f) first cap=>some (f,first++(as.toList.map (ev fr)++cap))
  |_=>none
 |_=>none
def ZI:Op->Option (TypeId×Nat×Nat×Option (Nat×Nat)×Nat×Nat×AE)
 | .call {callee:=.builtin .append,args:=as,argTypes:=ts}=>
  match as.toList.map (ev fr),ts[0]?,ts[1]? with
  | [.slice r sl,x],some st,some xt=>
   match P.underlying st,P.underlying xt,RP x with
   |some (.slice e),some d,some n=>
    match P.info? e with
    |some i=>if Kw d=true/\i.size≠0/\i.zero.map (·.cells.size)=some i.size then some (e,i.size,i.bytes,r,sl,n,x)else none
    |none=>none
   |_,_,_=>none
  |_,_,_=>none
 |_=>none
def b8:Op->Option (Bool×Option (Nat×Nat))
 | .binOp op t x y _=>
  match P.underlying t,ev fr x,ev fr y,op with
  |some (.pointer _),.ptr p,.ptr none,.eql=>some (true,p)
  |some (.pointer _),.ptr p,.ptr none,.neq=>some (false,p)
  |_,_,_,_=>none
 |_=>none
def Pz:Op->Option (Bool×IntKind×Int×Int)
 | .binOp op _ x y _=>
  match ev fr x,ev fr y,op with
  | .int k a,.int _ b,.shl=>some (true,k,a,b)
  | .int k a,.int _ b,.shr=>some (false,k,a,b)
  |_,_,_=>none
 |_=>none
def Y8:Op->Option (List UInt8×List UInt8)
 | .binOp op _ x y _=>
  match ev fr x,ev fr y,op with
  | .str a,.str b,.add=>some (a,b)
  |_,_,_=>none
 |_=>none
def ZH:Op->Option (TypeId×List UInt8)
 | .convert s d x=>
  match P.underlying s,P.underlying d,ev fr x with
  |some .string,some (.slice e),.str t=>
   match P.underlying e,Dn P e with
   |some (.int .u8),some 1=>some (e,t)
   |_,_=>none
  |_,_,_=>none
 |_=>none
end
end Go.Av
