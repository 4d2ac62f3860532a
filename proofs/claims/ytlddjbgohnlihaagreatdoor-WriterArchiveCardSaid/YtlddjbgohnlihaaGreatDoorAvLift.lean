/-
 A part.
-/
import Derived.Test.YtlddjbgohnlihaaGreatDoorAvMono
import Derived.KernelRfl
set_option linter.unusedSimpArgs false
namespace Go.Av
def Has(fr:Fr)(N:Nat)(l:List (Nat×AB)):Prop:=fr.length=N∧∀p∈l,nth fr p.1=p.2
def Vo(fr:Fr)(k:Nat):List (Nat×AB)→AB
 |[]=>nth fr k
 |(i,v)::r=>bif Nat.beq i k then v else Vo fr k r
def Ry(l:List (Nat×AB))(fr:Fr):Nat→Nat→Fr
 |_,0=>[]
 |s,k+1=>Vo fr s l::Ry l fr (s+1) k
def C1(N:Nat)(l:List (Nat×AB))(fr:Fr):Fr:=Ry l fr 0 N
theorem Sd{fr:Fr}{k:Nat}:∀{l:List (Nat×AB)},(∀p∈l,nth fr p.1=p.2)→Vo fr k l=nth fr k
 |[],_=>rfl
 |(i,v)::r,h=>by
  unfold Vo;rw[Ik];by_cases e:i=k
  ·rw[zm e,←e];exact(h (i,v) (by simp)).symm
  ·rw[zk e];exact Sd fun p B=>h p (by simp[B])
theorem Rb{fr:Fr}{l:List (Nat×AB)}(h:∀p∈l,nth fr p.1=p.2):∀(k s:Nat),s+k=fr.length→Ry l fr s k=fr.drop s
 |0,s,e=>by
  have:fr.drop s=[]:=yc (by omega);rw[this];rfl
 |k+1,s,e=>by
  have C:s<fr.length:=by omega
  rw[Ry,Rb h k (s+1) (by omega),Sd h,zP C,FZ,zo,List.getElem?_eq_getElem C];rfl
theorem Eu{fr:Fr}{N:Nat}{l:List (Nat×AB)}(H:Has fr N l):C1 N l fr=fr:=by
 unfold C1;have e:0+N=fr.length:=by have:=H.1;omega
 rw[Rb H.2 N 0 e,yl]
theorem Has.of_map{fr:Fr}{N:Nat}{out:List (Nat×AB)}(h1:fr.length=N)(h2:out.map (fun p=>nth fr p.1)=out.map (·.2)):Has fr N out:=by
 refine⟨h1,?_⟩
 induction out with
 |nil=>intro p B;cases B
 |cons q out ih=>
  simp only[zU,List.cons.injEq]at h2;intro p B;cases B with
  |head=>exact h2.1
  |tail _ B=>exact ih h2.2 p B
theorem Has.less{fr:Fr}{N:Nat}{l:List (Nat×AB)}(H:Has fr N l)(out:List (Nat×AB))(h:∀fr,out.map (fun p=>nth (C1 N l fr) p.1)=out.map (·.2)):Has fr N out:=by
 have:=h fr;rw[Eu H]at this;exact Has.of_map H.1 this
theorem bind_some{α β:Type}{a:Option α}{k:α→Option β}{x:β}(h:a.bind k=some x):∃y,a=some y∧k y=some x:=by
 cases a with
 |none=>cases h
 |some y=>exact⟨y,rfl,h⟩
def AX{α:Type}(b:Bool)(x y:Option α):Option α:=
 match b with
 |true=>x
 |false=>y
theorem As{α:Type}{b:Bool}{x y:Option α}{r:α}(h:AX b x y=some r):(b=true∧x=some r)∨(b=false∧y=some r):=by
 cases b with
 |true=>exact .inl ⟨rfl,h⟩
 |false=>exact .inr ⟨rfl,h⟩
@[simp] theorem AQ {α:Type} (x y:Option α):AX true x y=x:=rfl
@[simp] theorem AK {α:Type} (x y:Option α):AX false x y=y:=rfl
def Bn{α:Type}(b:Bool)(x:Option α):Option α:=
 match b with
 |true=>x
 |false=>none
theorem Ag{α:Type}{b:Bool}{x:Option α}{r:α}(h:Bn b x=some r):b=true∧x=some r:=by
 cases b with
 |true=>exact⟨rfl,h⟩
 |false=>cases h
@[simp] theorem Ak {α:Type} (x:Option α):Bn true x=x:=rfl
def IN{σ ρ:Type}(step:σ→Option (σ⊕ρ)):Nat→σ→Option ρ
 |0,_=>none
 |n+1,s=>
  match step s with
  |some (.inl s')=>IN step n s'
  |some (.inr r)=>some r
  |none=>none
theorem Mm{σ ρ:Type}{step:σ→Option (σ⊕ρ)}:∀{n m:Nat} {s:σ} {r:ρ},n≤m→IN step n s=some r→IN step m s=some r
 |0,_,_,_,_,h=>by cases h
 |n+1,0,_,_,h,_=>by omega
 | n+1,m+1,s,r,hle,h=>by
  unfold IN at h⊢;cases E:step s with
  |none=>rw[E]at h;cases h
  |some o=>
   rw[E]at h;cases o with
   |inl s'=>exact Mm (Nat.le_of_succ_le_succ hle) h
   |inr r'=>exact h
open Classical in
noncomputable def Xg{σ ρ:Type}(step:σ→Option (σ⊕ρ))(s:σ):Option ρ:=
 if h:∃r n,IN step n s=some r then some (Classical.choose h)else none
@[irreducible] noncomputable def loop {σ ρ:Type} (step:σ→Option (σ⊕ρ)) (s:σ):Option ρ:=
 match IN step 4611686018427387904 s with
 |some r=>some r
 |none=>Xg step s
theorem R6{σ ρ:Type}{step:σ→Option (σ⊕ρ)}{s:σ}{r:ρ}(h:loop step s=some r):∃n,IN step n s=some r:=by
 unfold loop at h;split at h
 ·rename_i r' h';cases h;exact⟨_,h'⟩
 ·unfold Xg at h;split at h
  ·rename_i D;injection h with h;rw[←h];exact Classical.choose_spec D
  ·cases h
theorem Qw{σ ρ:Type}{step:σ→Option (σ⊕ρ)}{s:σ}{r r':ρ}{n m:Nat}(h:IN step n s=some r)(hm:IN step m s=some r'):r=r':=by
 have h1:=Mm (yS n m) h;have h2:=Mm (yF n m) hm;rw[h1]at h2;exact zJ h2
theorem Rv{σ ρ:Type}{step:σ→Option (σ⊕ρ)}{s:σ}{r:ρ}{n:Nat}(h:IN step n s=some r):loop step s=some r:=by
 unfold loop;split
 ·rename_i r' h';rw[Qw h h']
 ·have D:∃r n,IN step n s=some r:=⟨r,n,h⟩;unfold Xg;rw[dif_pos D];obtain⟨m,hm⟩:=Classical.choose_spec D;rw[Qw h hm]
theorem ME{σ ρ:Type}{step:σ→Option (σ⊕ρ)}{s:σ}{r:ρ}(h:step s=some (.inr r)):loop step s=some r:=Rv (n:=1) (by simp[IN,h])
theorem Q3{σ ρ:Type}{step:σ→Option (σ⊕ρ)}{s s':σ}{r:ρ}(h:step s=some (.inl s'))(hr:loop step s'=some r):loop step s=some r:=by
 obtain⟨n,hn⟩:=R6 hr;exact Rv (n:=n+1) (by simp[IN,h,hn])
theorem Wi{σ ρ:Type}{step:σ→Option (σ⊕ρ)}(inv:σ→Prop)(μ:σ→Nat)(post:ρ→Prop)
  (E:∀s,inv s→(∃s',step s=some (.inl s')∧inv s'∧μ s'<μ s)∨(∃r,step s=some (.inr r)∧post r)):∀s,inv s→∃r,loop step s=some r∧post r:=by
 have key:∀n s,μ s<n→inv s→∃r,loop step s=some r∧post r:=by
  intro n
  induction n with
  |zero=>intro s h _;omega
  | succ n ih=>
   intro s C hi;rcases E s hi with⟨s',h1,h2,h3⟩|⟨r,h1,h2⟩
   ·obtain⟨r,h4,h5⟩:=ih s' (by omega) h2;exact⟨r,Q3 h1 h4,h5⟩
   ·exact⟨r,ME h1,h2⟩
 exact fun s hi=>key _ s (Nat.lt_succ_self _) hi
structure Sl where
 r:Option (Nat×Nat)
 n:Nat
section
variable (h:AI) (a:Nat×Nat)
def ld1:Option AB:=
 match Cf (h.get a.1) a.2 1 with
 |some [v]=>some v
 |_=>none
def DY(n:Nat):Option (List AB):=Cf (h.get a.1) a.2 n
end
def fS(k:IntKind):AB→Option Int
 | .int k' n=>if k=k' then some n else none
 |_=>none
def fQ:AB→Option (List UInt8)
 | .str s=>some s
 |_=>none
def fO:AB→Option (Option (Nat×Nat))
 | .ptr p=>some p
 |_=>none
def fR:AB→Option Sl
 | .slice r n=>some ⟨r,n⟩
 |_=>none
def eH(a:Nat×Nat)(n z:Nat)(i:Int):Option (Nat×Nat):=if 0≤i∧i<n then some (a.1,a.2+i.toNat*z)else none
def de(s:Sl)(z:Nat)(i:Int):Option (Nat×Nat):=
 match s.r with
 |some a=>eH a s.n z i
 |none=>none
def JQ(s:List UInt8)(i:Int):Option Int:=if 0≤i then(s[i.toNat]?).map fun b=>(b.toNat:Int)else none
def WG(n:Nat)(lo hi:Option Int):Option (Nat×Nat):=
 match hi with
 | some u=>
  if 0≤u∧u≤n then
   match lo with
   |some l=>if 0≤l∧l≤u then some (l.toNat,u.toNat)else none
   |none=>some (0,u.toNat)
  else none
 |none=>
  match lo with
  |some l=>if 0≤l∧l≤n then some (l.toNat,n)else none
  |none=>some (0,n)
theorem JP(k k':IntKind)(n:Nat)(lo hi:Option Int):FA n (lo.map (.int k ·)) (hi.map (.int k' ·))=WG n lo hi:=by
 cases lo<;>cases hi<;>rfl
def D6(s:List UInt8)(lo hi:Option Int):Option (List UInt8):=(WG s.length lo hi).map fun p=>(s.drop p.1).take (p.2 - p.1)
def ZN(h:AI)(a:Nat×Nat)(n z:Nat)(lo hi:Option Int):Option Sl:=
 match h.get a.1 with
 |some (.cells none _ _)=>(WG n lo hi).map fun p=>⟨some (a.1,a.2+p.1*z),p.2 - p.1⟩
 |_=>none
def Zz(P:Program)(h:AI)(s:Sl)(z:Nat)(lo hi:Option Int):Option Sl:=
 match s.r with
 |none=>if s.n=0 then(WG 0 lo hi).map fun _=>⟨none,0⟩else none
 |some a=>
  match h.get a.1 with
  |some (.cells none _ _)=>(WG s.n lo hi).map fun p=>⟨some (a.1,a.2+p.1*z),p.2 - p.1⟩
  |some (.cells (some e) _ _)=>if CP P e=some z then(WG s.n lo hi).map fun p=>⟨some (a.1,a.2+p.1*z),p.2 - p.1⟩else none
  |_=>none
def eA(h:AI)(s:Sl):Option (List UInt8):=
 match s.r with
 |none=>some []
 |some a=>if s.n=0 then(h.get a.1).map (fun _=>[])else(Cf (h.get a.1) a.2 s.n).bind bytesOf
def st(g:Gd)(h:AI)(a:Nat×Nat)(cs:List AB):Option AI:=Cg g h a.1 a.2 cs
def dj(n:Nat)(g:Gd)(h:AI)(a:Nat×Nat)(cs:List AB):Option AI:=if cs.length=n then Cg g h a.1 a.2 cs else none
def da(bytes:Nat)(z:List AB)(l c:Int):Option (List AB):=if 0≤l∧l≤c∧c≤1099511627776∧bytes*c≤1099511627776 then some (Fa z c.toNat)else none
def app(e:TypeId)(sz bytes:Nat)(g:Gd)(h:AI)(s:Sl)(n:Nat)(x:AB):Option (Sl×AI):=
 if n=0 then some (s,h)
 else if s.n+n≤1099511627776∧(s.n+n)*bytes≤1099511627776 then
  match(EI h sz n x).map (·.map FM),EI h sz s.n (.slice s.r s.n)with
  | some new,some Hr=>
   if (Hr++new).all AB.one=true then
    match s.r with
    |none=>some (⟨some (h.size,0),s.n+n⟩,h.push (.cells (some e) 2 (Hr++new)))
    | some a=>
     match h.get a.1 with
     |some (.cells (some e') 2 _)=>
      if g.may a.1=true∧e'=e then some (⟨some (h.size,0),s.n+n⟩,(h.set a.1 (.cells (some e') 0 [])).push (.cells (some e) 2 (Hr++new)))
      else none
     |_=>none
   else none
  |_,_=>none
 else none
def dZ(sz:Nat)(g:Gd)(h:AI)(d:Sl)(n:Nat)(x:AB):Option (Int×AI):=
 match EI h sz (min n d.n) x with
 |some new=>
  if min n d.n=0 then some (0,h)else
  match d.r with
  |some a=>(Cg g h a.1 a.2 new).map fun h'=>(((min n d.n:Nat):Int),h')
  |none=>none
 |none=>none
def ZO(k:IntKind)(a b:Int):Int:=k.wrap (BitVec.ofInt k.bits a &&& BitVec.ofInt k.bits b).toNat
def WK(k:IntKind)(a b:Int):Int:=k.wrap (a*2^(min b.toNat k.bits))
def Yh(k:IntKind)(a b:Int):Int:=a.fdiv (2^(min b.toNat k.bits))
def mx(a b:Int):Int:=if b>a then b else a
def mn(a b:Int):Int:=if b<a then b else a
def PC(ops:Array Oper)(i:Nat):Op:=
 match ops[i]? with
 |some o=>o.op
 |none=>.move (.const (.bool false))
def Hj(ops:Array Oper)(i:Nat):Option Tmp:=
 match ops[i]? with
 |some o=>o.dst
 |none=>none
def runs(ops:Array Oper)(fr:Fr)(i:Nat):Bool:=
 match ops[i]? with
 |some o=>(match CW ops fr o with|some b=>b|none=>false)
 |none=>false
def Vq(ops:Array Oper)(fr:Fr)(i:Nat):Bool:=
 match ops[i]? with
 |some o=>(match CW ops fr o with|some b=> !b|none=>false)
 |none=>false
section
variable (P:Program) (fr:Fr)
def Ns:Op→Option ((Nat×Nat)×Option Nat)
 | .load t x=>
  match ev fr x,Jx P t with
  | .ptr (some a),some true=>(CP P t).map (a,some ·)
  | .ptr (some a),some false=>some (a,none)
  |_,_=>none
 |_=>none
def Jj:Op→Option ((Nat×Nat)×Nat×AB)
 | .store t x y=>
  match ev fr x with
  | .ptr (some a)=>(CP P t).map fun n=>(a,n,ev fr y)
  |_=>none
 |_=>none
def cc(op:Op):Option AB:=
 match A4 P op with
 |0=>It P fr op
 |_=>none
def cz(op:Op)(k:Nat):Option (AB×B0):=
 match A4 P op with
 |2=>(Qg P fr op).map fun x=>(x.1 k,x.2)
 |_=>none
def ed:Op→Option ((Nat×Nat)×Nat×Nat×Int)
 | .indexAddr t x i=>
  match P.underlying t,ev fr x,ev fr i with
  |some (.array n e),.ptr (some a),.int _ i=>(CP P e).map fun z=>(a,n,z,i)
  |_,_,_=>none
 |_=>none
def ai:Op→Option (Option (Nat×Nat)×Nat×Nat×Int)
 | .indexAddr t x i=>
  match P.underlying t,ev fr x,ev fr i with
  |some (.slice e),.slice r n,.int _ i=>(CP P e).map fun z=>(r,n,z,i)
  |_,_,_=>none
 |_=>none
def aq:Op→Option (List UInt8×Int)
 | .index t x i=>
  match P.underlying t,ev fr x,ev fr i with
  |some .string,.str s,.int _ i=>some (s,i)
  |_,_,_=>none
 |_=>none
def XI:Op→Option (List UInt8×Option AB×Option AB)
 | .slice t x lo hi none=>
  match P.underlying t,ev fr x with
  |some .string,.str s=>some (s,lo.map (ev fr),hi.map (ev fr))
  |_,_=>none
 |_=>none
def Xp:Op→Option ((Nat×Nat)×Nat×Nat×Option AB×Option AB)
 | .slice t x lo hi none=>
  match P.underlying t,ev fr x with
  |some (.array n e),.ptr (some a)=>(CP P e).map fun z=>(a,n,z,lo.map (ev fr),hi.map (ev fr))
  |_,_=>none
 |_=>none
def XL:Op→Option (Option (Nat×Nat)×Nat×Nat×Option AB×Option AB)
 | .slice t x lo hi none=>
  match P.underlying t,ev fr x with
  |some (.slice e),.slice r n=>(CP P e).map fun z=>(r,n,z,lo.map (ev fr),hi.map (ev fr))
  |_,_=>none
 |_=>none
def Yd:Op→Option (Option (Nat×Nat)×Nat)
 | .convert s d x=>
  match P.underlying s,P.underlying d,ev fr x with
  |some (.slice e),some .string,.slice r n=>
   match P.underlying e with
   |some (.int .u8)=>some (r,n)
   |_=>none
  |_,_,_=>none
 |_=>none
def Z4:Op→Option (TypeId×Nat×List AB×Int×Int)
 | .makeSlice t l c=>
  match P.underlying t,ev fr l,ev fr c with
  | some (.slice e),.int _ l,.int _ c=>
   match P.info? e with
   | some i=>
    match i.zero.map ZL with
    |some z=>
     match z.cells?.map (·.map FM)with
     |some zc=>if zc.length=i.size∧zc.all AB.one=true then some (e,i.bytes,zc,l,c)else none
     |none=>none
    |none=>none
   |none=>none
  |_,_,_=>none
 |_=>none
def Nz:Op→Option (FuncId×List AB)
 | .call {callee:=.value x,args:=as,..}=>
  match ev fr x with
  | .func (.func f) first cap=>some (f,first++(as.toList.map (ev fr)++cap))
  |_=>none
 |_=>none
def al:Op→Option (TypeId×Nat×Nat×Option (Nat×Nat)×Nat×Nat×AB)
 | .call {callee:=.builtin .append,args:=as,argTypes:=ts}=>
  match as.toList.map (ev fr),ts[0]?,ts[1]? with
  | [.slice r sl,x],some st,some xt=>
   match P.underlying st,P.underlying xt,Pk x with
   |some (.slice e),some d,some n=>
    match P.info? e with
    |some i=>if J1 d=true∧i.size≠0∧i.zero.map (·.cells.size)=some i.size then some (e,i.size,i.bytes,r,sl,n,x)else none
    |none=>none
   |_,_,_=>none
  |_,_,_=>none
 |_=>none
def aj:Op→Option (Nat×Option (Nat×Nat)×Nat×Nat×AB)
 | .call {callee:=.builtin .copy,args:=as,argTypes:=ts}=>
  match as.toList.map (ev fr),ts[0]? with
  |[.slice r dl,x],some dt=>
   match P.underlying dt,Pk x with
   |some (.slice e),some n=>(CP P e).map fun z=>(z,r,dl,n,x)
   |_,_=>none
  |_,_=>none
 |_=>none
def eg:Op→Option (Bool×Option (Nat×Nat))
 | .binOp op t x y _=>
  match P.underlying t,ev fr x,ev fr y,op with
  |some (.pointer _),.ptr p,.ptr none,.eql=>some (true,p)
  |some (.pointer _),.ptr p,.ptr none,.neq=>some (false,p)
  |_,_,_,_=>none
 |_=>none
def V5:Op→Option (Bool×IntKind×Int×Int)
 | .binOp op _ x y _=>
  match ev fr x,ev fr y,op with
  | .int k a,.int k' b,.quo=>if k=k' then some (true,k,a,b)else none
  | .int k a,.int k' b,.rem=>if k=k' then some (false,k,a,b)else none
  |_,_,_=>none
 |_=>none
def Vi:Op→Option (Bool×IntKind×Int×Int)
 | .binOp op _ x y _=>
  match ev fr x,ev fr y,op with
  | .int k a,.int _ b,.shl=>some (true,k,a,b)
  | .int k a,.int _ b,.shr=>some (false,k,a,b)
  |_,_,_=>none
 |_=>none
def aT:Op→Option (List UInt8×List UInt8)
 | .binOp op _ x y _=>
  match ev fr x,ev fr y,op with
  | .str a,.str b,.add=>some (a,b)
  |_,_,_=>none
 |_=>none
end
end Go.Av
