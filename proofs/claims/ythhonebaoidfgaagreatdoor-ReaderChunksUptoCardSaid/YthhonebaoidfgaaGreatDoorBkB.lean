/-
  Several texts in one.
-/
import Derived.Test.YthhonebaoidfgaaGreatDoorRdR
set_option linter.unusedSimpArgs false
/-
 A part.
-/
section
namespace Go.Av.L
open Go.Av Go.Lib
set_option linter.unusedVariables false
set_option linter.unusedSimpArgs false
theorem zero_eq(s:List UInt8):BX s 0=some (idxOf s 0):=by
 unfold BX Cp HQ;rfl
def FM(s:List UInt8):Bool:=decide (0<=idxOf s 0)
theorem V8(p0:AO):loop (Dv p0) 0=some (if FM p0.Name||(FM p0.BG||(FM p0.A6||FM p0.A7))then .inr 2 else .inl ()):=by
 have st:∀(k:Nat) (s:List UInt8),[p0.Name,p0.BG,p0.A6,p0.A7][k]?=some s->Dv p0 (k:Int)=some (if FM s then .inr (.inr 2)else .inl ((k+1:Nat):Int)):=by
  intro k s Q;have hk:k<4:=by have:=(List.getElem?_eq_some_iff.1 Q).1;simpa using this
  rw[Dv,zg (by simp;omega),Ah,Ym Q,za,zero_eq,za,IB,Ek om om];unfold FM;by_cases h:0<=idxOf s 0
  ·rw[zl h,zg h,zl rfl]
  ·rw[zj h,zm h,zj (by simp)];rfl
 have en:Dv p0 ((4:Nat):Int)=some (.inr (.inl ())):=by rw[Dv];rfl
 have s0:=st 0 _ rfl;have s1:=st 1 _ rfl;have s2:=st 2 _ rfl;have s3:=st 3 _ rfl;show loop (Dv p0) ((0:Nat):Int)=_;cases h0:FM p0.Name with
 |true=>rw[h0]at s0;rw[Cl (by rw[s0];rfl)];rfl
 | false=>
  rw[h0]at s0;rw[Cm (s':=((0+1:Nat):Int)) (by rw[s0];rfl)];cases h1:FM p0.BG with
  |true=>rw[h1]at s1;rw[Cl (r:=.inr 2) (by rw[s1];rfl)];rfl
  | false=>
   rw[h1]at s1;rw[Cm (s':=((1+1:Nat):Int)) (by rw[s1];rfl)];cases h2:FM p0.A6 with
   |true=>rw[h2]at s2;rw[Cl (r:=.inr 2) (by rw[s2];rfl)];rfl
   | false=>
    rw[h2]at s2;rw[Cm (s':=((2+1:Nat):Int)) (by rw[s2];rfl)];cases C:FM p0.A7 with
    |true=>rw[C]at s3;rw[Cl (r:=.inr 2) (by rw[s3];rfl)];rfl
    |false=>
     rw[C]at s3;rw[Cm (s':=((3+1:Nat):Int)) (by rw[s3];rfl),Cl en];rfl
end Go.Av.L
end
/-
 A part.
-/
section
namespace Go.Av.L
open Go.Av Go.Lib
set_option linter.unusedVariables false
set_option linter.unusedSimpArgs false
set_option maxRecDepth 10000
def aZ(s:List UInt8)(r:Int):Prop:=(r= -1/\∀j:Nat,s[j]?≠some 47)\/∃i:Nat,r=(i:Int)/\s[i]?=some 47/\∀j,i<j->s[j]?≠some 47
theorem Yc(s:List UInt8)(Q:s.length<=1000000):W (DE s 47) (aZ s):=by
 unfold DE DZ;refine Aq (Aq (W.loop (λx:Int=> -1<=x/\x<s.length/\∀j:Nat,x<(j:Int)->s[j]?≠some 47) (λx=>(x+1).toNat) ?_ λx S=>?_))
 ·rw[Ek om om];refine⟨by omega,by omega,λj J e=>?_⟩;have:=(List.getElem?_eq_some_iff.1 e).1;omega
 ·obtain⟨h1,h2,C⟩:=S;rw[EA,IB];by_cases h0:x>=0
  ·obtain⟨n,rfl⟩:=xI h0;have B:n<s.length:=by omega
   rw[zl h0,MX B,za,show(47:Int)=((47:Nat):Int) from rfl,Ri om];by_cases N:s[n]=47
   ·rw[show(s[n]==UInt8.ofNat 47)=true from by rw[N];rfl,Ah];refine Ae (Ae (Ae (.inr ⟨n,rfl,by rw[List.getElem?_eq_getElem B,N],λj J=>C j om⟩)))
   ·rw[show(s[n]==UInt8.ofNat 47)=false from beq_eq_false_iff_ne.2 N,AV,Ek om om];refine Ae ⟨⟨by omega,by omega,λj J e=>?_⟩,by omega⟩;by_cases hj2:j=n
    ·subst hj2;rw[List.getElem?_eq_getElem B]at e;exact N (zJ e)
    ·exact C j om e
  ·rw[zj h0];refine Ae (Ae (Ae (.inl ⟨rfl,λj e=>C j om e⟩)))
def Cut(s:List UInt8)(i:Nat):Prop:=1<=i/\i<=155/\s[i]?=some 47/\i+2<=s.length/\s.length<=i+101
def L7(s:List UInt8)(r:List UInt8×List UInt8×Bool):Prop:=
 (s.length<=100/\r=([],s,true))\/(100<s.length/\((r=([],[],false)/\∀i,¬Cut s i)\/∃i,Cut s i/\(∀j,Cut s j->j<=i)/\r=(s.take i,s.drop (i+1),true)))
theorem L7.uniq{s:List UInt8}{r r':List UInt8×List UInt8×Bool}(h:L7 s r)(h':L7 s r'):r=r':=by
 rcases h with⟨h1,rfl⟩|⟨h1,h2⟩
 ·rcases h' with⟨_,rfl⟩|⟨C,_⟩
  ·rfl
  ·omega
 ·rcases h' with⟨C,_⟩|⟨_,R⟩
  ·omega
  ·rcases h2 with⟨rfl,n⟩|⟨i,c,m,rfl⟩
   ·rcases R with⟨rfl,_⟩|⟨j,d,_,_⟩
    ·rfl
    ·exact absurd d (n j)
   ·rcases R with⟨_,n⟩|⟨j,d,k,rfl⟩
    ·exact absurd c (n i)
    ·have:=m j d;have:=k i c;obtain rfl:i=j:=by omega
     rfl
theorem L7.len{s p q:List UInt8}(h:L7 s (p,q,true)):p.length<=155/\q.length<=100:=by
 rcases h with⟨h1,e⟩|⟨h1,⟨e,_⟩|⟨i,c,_,e⟩⟩
 ·cases e;exact⟨by simp,h1⟩
 ·cases e
 ·obtain⟨c1,c2,c3,c4,c5⟩:=c;cases e;exact⟨by rw[zA];omega,by rw[yc];omega⟩
theorem Ur{s:List UInt8}{m j:Nat}(h:j<m):(s.take m)[j]?=s[j]?:=List.getElem?_take_of_lt h
theorem VJ(s:List UInt8)(Q:s.length<=1000000):W (Fh s) (L7 s):=by
 unfold Fh;refine Ce (λh=>Ae (.inl ⟨by omega,rfl⟩)) λh=>?_;have hmn:mn (s.length:Int) 156=((min s.length 156:Nat):Int):=by unfold mn;split<;>omega
 rw[hmn,Hp om,za];refine Aq ((Yc (s.take (min s.length 156)) (by rw[zA];omega)).mono λx S=>?_);refine Aq (W.loop (λx:Int=>∃m,m<=s.length/\m<=156/\aZ (s.take m) x/\∀j,Cut s j->j<m) (λx=>(x+1).toNat) ⟨_,by omega,by omega,S,λj c=>by obtain⟨c1,c2,c3,c4,c5⟩:=c;omega⟩ λx S=>?_);obtain⟨m,hm1,hm2,H,hc⟩:=S;unfold KQ;dsimp only;rw[Ek (x:=(s.length:Int) - 1) om om];have fin:(∃i,Cut s i/\(∀j,Cut s j->j<=i)/\x=(i:Int))\/((∀i,¬Cut s i)/\(x<1\/(s.length:Int) - x - 1>100))->W (some (.inr x):Option (Int⊕Int)) λr=>match r with
   | .inl s'=>(∃m,m<=s.length/\m<=156/\aZ (s.take m) s'/\∀j,Cut s j->j<m)/\(s'+1).toNat<(x+1).toNat
   | .inr x4=>W (Ag ((decide (x4<1))||(decide ((IntKind.i64.wrap ((IntKind.i64.wrap ((s.length:Int) - x4)) - 1))>100))) (some (([]:List UInt8),([]:List UInt8),false)) ((E4 s none (some x4)).bind λx7=>(E4 s (some (IntKind.i64.wrap (x4+1))) none).bind λx8=>some (x7,x8,true))) (L7 s):=by
  intro hh;have hxb: -1<=x/\x<s.length:=by
   rcases H with⟨rfl,_⟩|⟨i,rfl,hi,_⟩
   ·omega
   ·have:=(List.getElem?_eq_some_iff.1 hi).1;rw[zA]at this;omega
  refine Ae ?_;dsimp only;rw[Ek (x:=(s.length:Int) - x) om om,Ek om om];rcases hh with⟨i,c,D,rfl⟩|⟨n,N⟩
  ·obtain⟨c1,c2,c3,c4,c5⟩:=c;rw[show(decide ((i:Int)<1)||decide ((s.length:Int) - (i:Int) - 1>100))=false from by rw[zM];exact⟨zm om,zm om⟩,AV,Hp om,za,IK om,LH om];exact Ae (.inr ⟨by omega,.inr ⟨i,⟨c1,c2,c3,c4,c5⟩,D,rfl⟩⟩)
  ·rw[show(decide (x<1)||decide ((s.length:Int) - x - 1>100))=true from by rw[yp,zy,zy];exact N,Ah];exact Ae (.inr ⟨by omega,.inl ⟨rfl,n⟩⟩)
 rcases H with⟨rfl,B⟩|⟨i,rfl,hi,I⟩
 ·rw[show(decide ((-1:Int)>0)&&((-1:Int)==(s.length:Int) - 1))=false from rfl,AV];refine(fin (.inr ⟨λj c=>?_,.inl om⟩)).mono λr h=>by cases r<;>exact h
  have C:=B j;rw[Ur (hc j c)]at C;exact C c.2.2.1
 ·have hlt:=(List.getElem?_eq_some_iff.1 hi).1;rw[zA]at hlt;have hsi:s[i]?=some 47:=by rw[<-Ur (show i<m by omega)];exact hi
  have D:∀j,Cut s j->j<=i:=λj c=>by
   rcases yh i j with M|M
   ·have C:=I j M;rw[Ur (hc j c)]at C;exact absurd c.2.2.1 C
   ·exact M
  by_cases hlast:0<i/\i+1=s.length
  ·rw[show(decide ((i:Int)>0)&&((i:Int)==(s.length:Int) - 1))=true from by rw[zf,zy,yN];omega,Ah,Hp om,za];refine Aq ((Yc (s.take i) (by rw[zA];omega)).mono λy U=>Ae ⟨⟨i,by omega,by omega,U,λj c=>?_⟩,?_⟩)
   ·have:=D j c;have:=c.2.2.2.1;omega
   ·rcases U with⟨rfl,_⟩|⟨k,rfl,hk,_⟩
    ·omega
    ·have:=(List.getElem?_eq_some_iff.1 hk).1;rw[zA]at this;omega
  ·rw[show(decide ((i:Int)>0)&&((i:Int)==(s.length:Int) - 1))=false from by rw[yv,zD,yu];omega,AV];refine(fin ?_).mono λr h=>by cases r<;>exact h
   by_cases T:1<=i/\s.length<=i+101
   ·exact .inl ⟨i,⟨T.1,by omega,hsi,by omega,T.2⟩,D,rfl⟩
   ·refine .inr ⟨λj c=>?_,by omega⟩;have:=D j c;obtain⟨c1,c2,c3,c4,c5⟩:=c;omega
def X7(h:AO)(b:Bool):Bool:=b&&(decide (h.BG.length<=100)&&(decide (h.A6.length<=32)&&decide (h.A7.length<=32)))
def Xz(h:AO):List (Int×Int):=[(1,h.Mode),(2,h.Cq),(3,h.Cy),(4,h.B9),(5,h.Time),(9,h.BY),(10,h.Bi)]
def W1(h:AO):Bool:=FM h.Name||(FM h.BG||(FM h.A6||FM h.A7))
def Vp(h:AO)(b:Bool):Int:=if W1 h=true then 2 else if X7 h b=true then(if(Xz h).all SC=true then 0 else 6)else 12
theorem Tu:∀(l:List (Int×Int)),(∀a∈l,a.1=1\/a.1=2\/a.1=3\/a.1=4\/a.1=5\/a.1=9\/a.1=10)->FU Ea l ()=some (if l.all SC=true then .inl ()else .inr 6)
 |[],_=>rfl
 | a::l,h=>by
  rw[FU,KT (h a (by simp))];cases O:SC a with
  |true=>
   rw[zl rfl];dsimp only;rw[Tu l λc hc=>h c (by simp[hc]),ya,O,y8]
  |false=>
   rw[zj (by simp),ya,O,qu];rfl
theorem Vv{h:AO}{p q:List UInt8}{b:Bool}(G:Fh h.Name=some (p,q,b)):EB h=some ([(0,q),(11,p),(6,h.BG),(7,h.A6),(8,h.A7)],b):=by
 unfold EB;rw[G];rfl
theorem eU{h:AO}{p q:List UInt8}{b:Bool}(G:Fh h.Name=some (p,q,b))(H:L7 h.Name (p,q,b)):Cr h=some (Vp h b):=by
 unfold Cr Vp;rw[V8,za];show(match(if W1 h=true then(.inr 2:Unit⊕Int)else .inl ())with| .inl _=>_| .inr x2=>some x2)=_;by_cases B:W1 h=true
 ·rw[zl B,zl B]
 ·rw[zj B,zj B];dsimp only;rw[Vv G,za];dsimp only;rw[UD _ b (Sy (Vv G)),za];dsimp only;have e:(b&&List.all [((0:Int),q),(11,p),(6,h.BG),(7,h.A6),(8,h.A7)] λa=>decide ((a.2.length:Int)<=dn a.1))=X7 h b:=by
   unfold X7;cases b with
   |false=>rfl
   |true=>
    obtain⟨l1,l2⟩:=H.len;simp only[ya,qt,y8,qp];rw[zg (show(q.length:Int)<=dn 0 by simp[dn];omega),zg (show(p.length:Int)<=dn 11 by simp[dn];omega),y8,y8];rw[show dn 6=100 from rfl,show dn 7=32 from rfl,show dn 8=32 from rfl];congr 1
    ·exact decide_eq_decide.2 om
    ·congr 1<;>exact decide_eq_decide.2 om
  rw[e];by_cases P:X7 h b=true
  ·rw[P,yg,AV,zl rfl];have ev:FJ h=some (Xz h):=rfl;rw[ev,za,Tu _ (Q4 ev),za];by_cases O:(Xz h).all SC=true
   ·rw[zl O,zl O]
   ·rw[zj O,zj O]
  ·have ht':X7 h b=false:=by simpa using P
   rw[ht',yE,Ah,zj (by simp)]
end Go.Av.L
end
/-
 A part.
-/
section
namespace Go.Av.L
open Go.Av Go.Lib
set_option linter.unusedVariables false
set_option linter.unusedSimpArgs false
set_option maxRecDepth 10000
def YS:List Nat:=[100,8,8,8,12,12,8,1,100,8,32,32,8,8,155,12]
def Shape(L:List (List UInt8)):Prop:=L.map List.length=YS
theorem Shape.flat{L:List (List UInt8)}(h:Shape L):L.flatten.length=512:=by
 rw[List.length_flatten,show L.map List.length=YS from h];rfl
def pd(s:List UInt8)(n:Nat):List UInt8:=s++(List.replicate n 0).drop s.length
theorem EY{s:List UInt8}{n:Nat}(h:s.length<=n):(pd s n).length=n:=by
 unfold pd;rw[zi,yc,zW];omega
def Wx(k:Int):UInt8:=if k=0 then 48 else UInt8.ofNat k.toNat
def ag:List UInt8:=[117,115,116,97,114,0,48,48]
def Wr(h:AO)(p q:List UInt8)(m:List UInt8):List (List UInt8):=
 [pd q 100,Hq h.Mode.toNat 8,Hq h.Cq.toNat 8,Hq h.Cy.toNat 8,Hq h.B9.toNat 12,Hq h.Time.toNat 12,m,[Wx h.Kind],pd h.BG 100,ag,pd h.A6 32,pd h.A7 32,Hq h.BY.toNat 8,Hq h.Bi.toNat 8,pd p 155,List.replicate 12 0]
theorem Vn{h:AO}{p q m:List UInt8}(G:p.length<=155)(H:q.length<=100)(hm:m.length=8)(P:h.BG.length<=100/\h.A6.length<=32/\h.A7.length<=32):Shape (Wr h p q m):=by
 unfold Shape Wr;simp only[zK,xK];rw[EY H,EY G,EY P.1,EY P.2.1,EY P.2.2,hm];simp only[HZ (show 1<=8 by omega),HZ (show 1<=12 by omega)];rfl
theorem eV{n:Nat}(h:n<256):fV (n:Int)=some (UInt8.ofNat n):=by
 unfold fV;rw[zl om];congr 2
def Ms(s:List UInt8):Nat:=(s.map UInt8.toNat).sum
theorem MQ:∀s:List UInt8,Ms s<=255*s.length
 |[]=>by simp[Ms]
 |b::s=>by
  have:=MQ s;have:=b.toNat_lt;simp only[Ms,zK,List.sum_cons,zG]at *;omega
theorem dD(a b:List UInt8):Ms (a++b)=Ms a+Ms b:=by simp[Ms]
theorem Tn{s:List UInt8}{i:Nat}(h:i<s.length):Ms (s.take (i+1))=Ms (s.take i)+s[i].toNat:=by
 rw[KI (List.getElem?_eq_getElem h),dD];simp[Ms]
def Sd(A Z:List UInt8):Nat:=Ms A+256+Ms Z
def S4(A Z:List UInt8)(i:Nat):Nat:=if i<=148 then Ms (A.take i)else if i<=156 then Ms A+32*(i - 148)else Ms A+256+Ms (Z.take (i - 156))
theorem cG{A Z:List UInt8}(hA:A.length=148)(hZ:Z.length=356):Sd A Z<262144:=by
 have:=MQ A;have:=MQ Z;unfold Sd;omega
end Go.Av.L
end
/-
 A part.
-/
section
namespace Go.Av.L
open Go.Av Go.Lib
set_option linter.unusedVariables false
set_option linter.unusedSimpArgs false
set_option maxRecDepth 10000
theorem Rg(s:List UInt8):FM s=false↔(0:UInt8)∉s:=by unfold FM;rw[zD,QS]
theorem U1{s:List UInt8}(h:FM s=false):(0:UInt8)∉s:=(Rg s).1 h
def AH(h:AO)(q:List UInt8):List UInt8:=[pd q 100,Hq h.Mode.toNat 8,Hq h.Cq.toNat 8,Hq h.Cy.toNat 8,Hq h.B9.toNat 12,Hq h.Time.toNat 12].flatten
def ZH(h:AO)(p:List UInt8):List UInt8:=[[Wx h.Kind],pd h.BG 100,ag,pd h.A6 32,pd h.A7 32,Hq h.BY.toNat 8,Hq h.Bi.toNat 8,pd p 155,List.replicate 12 0].flatten
theorem XH(h:AO)(p q m:List UInt8):(Wr h p q m).flatten=AH h q++(m++ZH h p):=by
 unfold Wr AH ZH;simp only[yi,qR,zC,zR]
def lZ(h:AO)(p q:List UInt8):Nat:=Sd (AH h q) (ZH h p)
def ZC(h:AO)(p q:List UInt8):List (List UInt8):=Wr h p q (Hq (lZ h p q) 7++[32])
structure Fit(h:AO)(p q:List UInt8):Prop where
 pt:Fh h.Name=some (p,q,true)
 pq:L7 h.Name (p,q,true)
 nF:W1 h=false
 t:h.BG.length<=100/\h.A6.length<=32/\h.A7.length<=32
 n:(Xz h).all SC=true
 k:0<=h.Kind/\h.Kind<=255
theorem Fit.lens{h:AO}{p q:List UInt8}(F:Fit h p q):(AH h q).length=148/\(ZH h p).length=356:=by
 obtain⟨l1,l2⟩:=F.pq.len;unfold AH ZH;simp only[yi,qR,zi,zY,HZ (show 1<=8 by omega),HZ (show 1<=12 by omega)];rw[EY l2,EY F.t.1,EY F.t.2.1,EY F.t.2.2,EY l1];exact⟨rfl,rfl⟩
theorem Fit.shape{h:AO}{p q:List UInt8}(F:Fit h p q):Shape (ZC h p q):=
 Vn F.pq.len.1 F.pq.len.2 (by rw[zi,HZ om];rfl) F.t
theorem bd{s:List UInt8}(h:FM s=false)(i:Nat):FM (s.take i)=false:=(Rg _).2 λhm=>U1 h (qi hm)
theorem cV{s:List UInt8}(h:FM s=false)(i:Nat):FM (s.drop i)=false:=(Rg _).2 λhm=>U1 h (xa hm)
theorem cN{s p q:List UInt8}(h:L7 s (p,q,true))(B:FM s=false):FM p=false/\FM q=false:=by
 rcases h with⟨h1,e⟩|⟨h1,⟨e,_⟩|⟨i,c,_,e⟩⟩
 ·cases e;exact⟨rfl,B⟩
 ·cases e
 ·cases e;exact⟨bd B i,cV B (i+1)⟩
end Go.Av.L
end
/-
 A part.
-/
section
namespace Go.Av.L
open Go.Av Go.Lib
set_option linter.unusedVariables false
set_option linter.unusedSimpArgs false
set_option maxRecDepth 10000
theorem YH{ρ:Type}{step:Int->Option (Int⊕(Unit⊕ρ))}{n:Nat}{c:Nat->Bool}{e:ρ}(E:step (n:Int)=some (.inr (.inl ())))(Q:∀i:Nat,i<n->step (i:Int)=some (if c i=true then .inl ((i+1:Nat):Int)else .inr (.inr e))):
  loop step 0=some (if(List.range n).all c=true then .inl ()else .inr e):=by
 have key:∀(k i:Nat),i+k=n->(∀j,j<i->c j=true)->loop step (i:Int)=some (if(List.range n).all c=true then .inl ()else .inr e):=by
  intro k
  induction k with
  |zero=>
   intro i hi hc;obtain rfl:i=n:=by omega
   rw[Cl E,zl (by rw[zr];exact λj J=>hc j (zO.1 J))]
  | succ k ih=>
   intro i hi hc;have h1:=Q i om;by_cases K:c i=true
   ·rw[zl K]at h1;rw[Cm h1];refine ih (i+1) om λj J=>?_;by_cases e:j=i
    ·rw[e];exact K
    ·exact hc j om
   ·rw[zj K]at h1;rw[Cl h1,zj];intro V;rw[zr]at V;exact K (V i (zO.2 om))
 exact key n 0 om λj J=>by omega
theorem Zg{α:Type}(a b:Bool)(x y:Option α):Ag a x (Ag b x y)=Ag (a||b) x y:=by cases a<;>rfl
theorem fp(s:List UInt8)(c:UInt8):BX s (c.toNat:Int)=some (idxOf s c):=by
 unfold BX Cp HQ;have:=c.toNat_lt;rw[zl om];simp
def cA:Pr:=⟨[],[]⟩
def PB(k:Nf):Bool:=k==([103,105,100]:List UInt8)||(k==([117,105,100]:List UInt8)||(k==([115,105,122,101]:List UInt8)||(k==([103,110,97,109,101]:List UInt8)||(k==([117,110,97,109,101]:List UInt8)||(k==([112,97,116,104]:List UInt8)||(k==([108,105,110,107,112,97,116,104]:List UInt8)||k==([109,116,105,109,101]:List UInt8)))))))
def cX(l:List Pr)(i:Nat):Bool:= !(PB (l.getD i cA).Key||(((l.getD i cA).Key==[]||(l.getD i cA).Value==[])||(decide (idxOf (l.getD i cA).Key 61>=0)||(decide (0<i)&& !(Op.bytesLess (l.getD (i - 1) cA).Key (l.getD i cA).Key)))))
theorem getD_at{l:List Pr}{i:Nat}(h:i<l.length):l.getD i cA=l[i]:=by rw[zo,List.getElem?_eq_getElem h];rfl
theorem Xc{l:List Pr}{i:Nat}(hi:i<l.length)(I:l.length<=1000000):Fj l (i:Int)=some (if cX l i=true then .inl ((i+1:Nat):Int)else .inr (.inr false)):=by
 unfold Fj;dsimp only;rw[zg om,Ah,Fe hi,za];simp only[Zg];rw[show(61:Int)=((61:UInt8).toNat:Int) from rfl,fp,za,IK om];have G:(Ag (decide ((i:Int)>0)) ((Kx l (IntKind.i64.wrap ((i:Int) - 1))).bind λx8=>some (!(Op.bytesLess x8.Key l[i].Key))) (some false):Option Bool)=some (decide (0<i)&& !(Op.bytesLess (l.getD (i - 1) cA).Key l[i].Key)):=by
  by_cases h0:0<i
  ·rw[zg (show(i:Int)>0 by omega),Ah,Ek om om,show(i:Int) - 1=((i - 1:Nat):Int) by omega,Fe om,za,getD_at (show i - 1<l.length by omega),zg h0,y8]
  ·rw[zm (show ¬(i:Int)>0 by omega),AV,zm h0,qu]
 rw[G,za];have hk:cX l i= !(PB l[i].Key||((l[i].Key==[]||l[i].Value==[])||(decide (idxOf l[i].Key 61>=0)||(decide (0<i)&& !(Op.bytesLess (l.getD (i - 1) cA).Key l[i].Key))))):=by unfold cX;rw[getD_at hi]
 rw[hk];generalize (decide (0<i)&& !(Op.bytesLess (l.getD (i - 1) cA).Key l[i].Key))=e3;generalize decide (idxOf l[i].Key 61>=0)=e2;generalize (l[i].Key==([]:List UInt8)||l[i].Value==([]:List UInt8))=e1;unfold PB;generalize (l[i].Key==([103,105,100]:List UInt8))=k1;generalize (l[i].Key==([117,105,100]:List UInt8))=k2;generalize (l[i].Key==([115,105,122,101]:List UInt8))=k3;generalize (l[i].Key==([103,110,97,109,101]:List UInt8))=k4;generalize (l[i].Key==([117,110,97,109,101]:List UInt8))=k5;generalize (l[i].Key==([112,97,116,104]:List UInt8))=k6;generalize (l[i].Key==([108,105,110,107,112,97,116,104]:List UInt8))=k7;generalize (l[i].Key==([109,116,105,109,101]:List UInt8))=k8;generalize (k1||(k2||(k3||(k4||(k5||(k6||(k7||k8)))))))=e0;cases e0<;>cases e1<;>cases e2<;>cases e3<;>rfl
def ZX(l:List Pr):Bool:=(List.range l.length).all (cX l)
theorem cC(l:List Pr)(I:l.length<=1000000):H3 l=some (ZX l):=by
 unfold H3 ZX;have E:Fj l (l.length:Int)=some (.inr (.inl ())):=by
  unfold Fj;dsimp only;rw[zm om,AV]
 rw[YH E λi hi=>Xc hi I,za];by_cases h:(List.range l.length).all (cX l)=true
 ·rw[zl h,h]
 ·rw[zj h];have:(List.range l.length).all (cX l)=false:=by simpa using h
  rw[this]
theorem Qf(most:Int)(l:List Int)(I:l.length<=1000):Dq most l=some (l.all λv=>decide (0<=v/\v<most)):=by
 unfold Dq;have E:Db most l (l.length:Int)=some (.inr (.inl ())):=by
  unfold Db;dsimp only;rw[zm om,AV]
 have hst:∀i:Nat,i<l.length->Db most l (i:Int)=some (if decide (0<=l.getD i 0/\l.getD i 0<most)=true then .inl ((i+1:Nat):Int)else .inr (.inr false)):=by
  intro i hi;unfold Db;dsimp only;rw[zg om,Ah,Fe hi,za,IK om,zo,List.getElem?_eq_getElem hi,zV];by_cases h:0<=l[i]/\l[i]<most
  ·rw[zl (zg h),show(decide (l[i]<0)||decide (l[i]>=most))=false from by rw[zM];exact⟨zm om,zm om⟩,AV]
  ·rw[zj (by simpa using h),show(decide (l[i]<0)||decide (l[i]>=most))=true from by rw[yp,zy,zy];omega,Ah]
 rw[YH E hst,za];have e:(List.range l.length).all (λi=>decide (0<=l.getD i 0/\l.getD i 0<most))=l.all λv=>decide (0<=v/\v<most):=by
  rw[qZ,zr,zr];constructor
  ·intro h v hv;obtain⟨i,hi,rfl⟩:=yS hv;have:=h i (zO.2 hi);rwa [zo,List.getElem?_eq_getElem hi]at this
  ·intro h i hi;have hi:=zO.1 hi;have:=h _ (zP hi);rwa [zo,List.getElem?_eq_getElem hi]
 rw[show(List.range l.length).all (λi=>decide (0<=l.getD i 0/\l.getD i 0<most))=_ from e];by_cases h:(l.all λv=>decide (0<=v/\v<most))=true
 ·rw[zl h,h]
 ·rw[zj h];have:(l.all λv=>decide (0<=v/\v<most))=false:=by simpa using h
  rw[this]
def Rz(t:Ax):Bool:=((decide (t.DR>=(-9007199254740991))&&decide (t.DR<=9007199254740991))&&decide (t.CE>=0))&&decide (t.CE<1000000000)
theorem Xe(t:Ax):Rz t=true↔Sb t:=by
 unfold Rz Sb;simp only[zf,zy];omega
def bq(m:AM):Bool:=(decide (0<=m.Cq/\m.Cq<9007199254740992)&&decide (0<=m.Cy/\m.Cy<9007199254740992))&&((decide (0<=m.Mode/\m.Mode<2097152)&&(decide (0<=m.BY/\m.BY<2097152)&&decide (0<=m.Bi/\m.Bi<2097152)))&&Rz m.Time)
def fo(m:AM):Bool:=FM m.Name||(FM m.BG||(FM m.A6||FM m.A7))
def MM(m:AM):Int:=if fo m=true then 2 else if(m.Name==[]|| !ZX m.Extra)=true then 2 else if bq m=true then 0 else 6
theorem aH(m:AM):loop (JQ m) 0=some (if fo m=true then .inr 2 else .inl ()):=V8 ⟨m.Name,m.BG,0,0,0,0,0,0,m.A6,m.A7,0,0,0⟩
theorem W5(m:AM)(I:m.Extra.length<=1000000):HE m=some (MM m):=by
 unfold HE MM;rw[aH,za];by_cases B:fo m=true
 ·rw[zl B,zl B]
 ·rw[zj B,zj B];dsimp only;rw[cC _ I,Qf _ _ (by simp),Qf _ _ (by simp)];unfold bq D6;rw[show(((decide (m.Time.DR>=(-9007199254740991))&&decide (m.Time.DR<=9007199254740991))&&decide (m.Time.CE>=0))&&decide (m.Time.CE<1000000000))=Rz m.Time from rfl];simp only[za,ya,qt,qp];generalize (decide (0<=m.Cq/\m.Cq<9007199254740992)&&decide (0<=m.Cy/\m.Cy<9007199254740992))=b1;generalize (decide (0<=m.Mode/\m.Mode<2097152)&&(decide (0<=m.BY/\m.BY<2097152)&&decide (0<=m.Bi/\m.Bi<2097152)))=b2;generalize Rz m.Time=b3;generalize ZX m.Extra=b4;generalize (m.Name==([]:List UInt8))=b5;cases b5<;>cases b4<;>cases b1<;>cases b2<;>cases b3<;>rfl
def SN(m:AM)(n:Int):Int:=if MM m=0 then(if 0<=n/\n<9007199254740992 then 0 else 6)else MM m
theorem dB(m:AM)(n:Int)(I:m.Extra.length<=1000000):Hy m n=some (SN m n):=by
 unfold Hy SN;rw[W5 m I,za];by_cases h:MM m=0
 ·rw[zl h,h,show((0:Int) !=0)=false from rfl,AV,Qf _ _ (by simp),za];simp only[ya,qt,qp];by_cases B:0<=n/\n<9007199254740992
  ·rw[zg B,zl B];rfl
  ·rw[zm B,zj B];rfl
 ·rw[zj h,bne_iff_ne.2 h,Ah]
def gf(l:List Pr):Prop:=jQ l/\∀p∈l,PB p.Key=false/\p.Key≠[]/\p.Value≠[]/\(61:UInt8)∉p.Key
theorem Yz:∀{l:List Pr},(∀i,(h:i+1<l.length)->l[i].Key<l[i+1].Key)->jQ l
 |[],_=>.nil
 |a::l,h=>by
  refine ym.2 ⟨λb N=>?_,Yz λi hi=>h (i+1) (by simpa using hi)⟩;obtain⟨j,J,rfl⟩:=yS N
  induction j with
  |zero=>exact h 0 (by simpa using J)
  |succ j ih=>exact List.lt_trans (ih om (zP _)) (h (j+1) (by simpa using J))
theorem ZS{l:List Pr}(h:ZX l=true):gf l:=by
 unfold ZX at h;rw[zr]at h;have at_:∀i (hi:i<l.length),PB l[i].Key=false/\l[i].Key≠[]/\l[i].Value≠[]/\(61:UInt8)∉l[i].Key/\(0<i->Op.bytesLess (l.getD (i - 1) cA).Key l[i].Key=true):=by
  intro i hi;have hc:=h i (zO.2 hi);unfold cX at hc;rw[getD_at hi]at hc;simp only[zH,zM,yu,zD,yv,yP]at hc;obtain⟨h1,⟨h2,C⟩,R,M⟩:=hc;refine⟨h1,h2,C,λhm=>R ((QS _ _).2 hm),λG=>?_⟩;rcases M with M|M
  ·exact absurd G M
  ·exact M
 refine⟨Yz λi hi=>?_,λp G=>?_⟩
 ·have:=(at_ (i+1) hi).2.2.2.2 om;rw[Nat.add_sub_cancel,getD_at (show i<l.length by omega),Go.Proofs.bytesLess_eq]at this;simpa using this
 ·obtain⟨i,hi,rfl⟩:=yS G;obtain⟨h1,h2,C,R,_⟩:=at_ i hi;exact⟨h1,h2,C,R⟩
structure Ul(m:AM):Prop where
 nN:FM m.Name=false
 nL:FM m.BG=false
 nU:FM m.A6=false
 nG:FM m.A7=false
 ne:m.Name≠[]
 ex:gf m.Extra
 ui:0<=m.Cq/\m.Cq<9007199254740992
 gi:0<=m.Cy/\m.Cy<9007199254740992
 mo:0<=m.Mode/\m.Mode<2097152
 ma:0<=m.BY/\m.BY<2097152
 mi:0<=m.Bi/\m.Bi<2097152
 ti:Sb m.Time
theorem ZV{m:AM}(h:MM m=0):Ul m:=by
 unfold MM at h;split at h
 ·cases h
 split at h
 ·cases h
 split at h
 rotate_left
 ·cases h
 rename_i h1 h2 C;unfold fo at h1;simp only[yF,zM,yu,yP]at h1 h2;unfold bq at C;simp only[zf,zy,Xe]at C;obtain⟨n1,n2,n3,n4⟩:=h1;obtain⟨⟨g1,g2⟩,⟨g3,g4,g5⟩,g6⟩:=C;exact⟨n1,n2,n3,n4,h2.1,ZS h2.2,g1,g2,g3,g4,g5,g6⟩
structure L9(h:AO):Prop where
 nN:FM h.Name=false
 nL:FM h.BG=false
 nU:FM h.A6=false
 nG:FM h.A7=false
 pt:∃p q,L7 h.Name (p,q,true)
 lk:h.BG.length<=100
 un:h.A6.length<=32
 gn:h.A7.length<=32
 mo:0<=h.Mode/\h.Mode<2097152
 ui:0<=h.Cq/\h.Cq<2097152
 gi:0<=h.Cy/\h.Cy<2097152
 si:0<=h.B9/\h.B9<8589934592
 ti:0<=h.Time/\h.Time<8589934592
 ma:0<=h.BY/\h.BY<2097152
 mi:0<=h.Bi/\h.Bi<2097152
theorem S0(h:AO):(Xz h).all SC=true↔(0<=h.Mode/\h.Mode<2097152)/\(0<=h.Cq/\h.Cq<2097152)/\(0<=h.Cy/\h.Cy<2097152)/\(0<=h.B9/\h.B9<8589934592)/\(0<=h.Time/\h.Time<8589934592)/\(0<=h.BY/\h.BY<2097152)/\(0<=h.Bi/\h.Bi<2097152):=by
 unfold Xz SC;simp
theorem ck(h:AO)(B:h.Name.length<=1000000):∃e,Cr h=some e/\(e=0↔L9 h):=by
 obtain⟨⟨p,q,b⟩,ep,H⟩:=VJ h.Name B;refine⟨Vp h b,eU ep H,λh0=>?_,λF=>?_⟩
 ·unfold Vp at h0;split at h0
  ·cases h0
  split at h0
  rotate_left
  ·cases h0
  split at h0
  rotate_left
  ·cases h0
  rename_i h1 h2 C;unfold W1 at h1;simp only[yF,zM]at h1;unfold X7 at h2;simp only[zf,zy]at h2;rw[S0]at C;obtain⟨rfl,t1,t2,t3⟩:=h2;obtain⟨n1,n2,n3,n4⟩:=h1;obtain⟨g1,g2,g3,g4,g5,g6,g7⟩:=C;exact⟨n1,n2,n3,n4,⟨p,q,H⟩,t1,t2,t3,g1,g2,g3,g4,g5,g6,g7⟩
 ·obtain⟨p',q',hq'⟩:=F.pt;have e:=H.uniq hq';cases e;unfold Vp
  rw[zj (by unfold W1;rw[F.nN,F.nL,F.nU,F.nG];simp),zl (by unfold X7;simp only[y8,zf,zy];exact⟨F.lk,F.un,F.gn⟩),
   zl ((S0 h).2 ⟨F.mo,F.ui,F.gi,F.si,F.ti,F.ma,F.mi⟩)]
theorem LD{h w:AO}{c:Prop}[Decidable c](hc:L9 w↔c)(B:w.Name.length<=1000000){k v:List UInt8}{l:List Pr}(I:l.length<=100):
  ((Cr w).bind λx2=>Ag (x2==0) (some (w,l)) (B4 (L1 32 (l.length+([(⟨k,v⟩:AB)]:List AB).length))<|some (h,(l++([(⟨k,v⟩:AB)]:List AB)))))=some (if c then w else h,l++if c then[]else[⟨k,v⟩]):=by
 obtain⟨e,he,X⟩:=ck w B;rw[he,za,Wh];by_cases h0:c
 ·rw[zl (X.2 (hc.2 h0)),zl h0,zl h0,zR]
 ·rw[zj (λh=>h0 (hc.1 (X.1 h))),zj h0,zj h0,JH (by simp;omega) (by simp;omega),BR]
end Go.Av.L
end
