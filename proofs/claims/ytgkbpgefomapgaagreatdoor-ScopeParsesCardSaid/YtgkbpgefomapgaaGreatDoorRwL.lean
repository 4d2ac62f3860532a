/-
  Several texts in one.
-/
import Derived.Test.YtgkbpgefomapgaaGreatDoorRwA
/-
 A part.
-/
section
namespace Go.Av.L
open Go.Av Go.Lib
set_option linter.unusedVariables false
set_option linter.unusedSimpArgs false
theorem bind_eq{α β:Type}{c:Option α}{k:α->Option β}{x:α}{r:Option β}(hc:c=some x)(E:k x=r):c.bind k=r:=by rw[hc];exact E
abbrev RS:=Bool×Bool×Bool×Int×Bool×Bool×Bool×Int×(List UInt8)
def SY(str:List UInt8)(seen:List Int)(i:Nat)(f:Fl):Option (Fl×Int×Nat)->RS⊕((Bool×Bool×Bool×Int×Bool×Bool×Bool)⊕(Bool×Bool×Bool×Int×Bool×Bool×Bool×Int×Int))
 |none=>.inr (.inr (f.g,f.f,f.x,f.n,f.nm,f.sf,f.hd,(i:Int),11))
 |some (f',k,j)=>if k∈seen then .inr (.inr (f'.g,f'.f,f'.x,f'.n,f'.nm,f'.sf,f'.hd,(i:Int),11))else .inl (f'.g,f'.f,f'.x,f'.n,f'.nm,f'.sf,f'.hd,(j:Int),str++[UInt8.ofNat k.toNat])
theorem aL(k:Int)(l:List UInt8)(C:l.length<=1000):FC k l=some (decide (k∈l.map λb=>(b.toNat:Int))):=by
 unfold FC;have key:∀(n i:Nat),n+i=l.length->loop (De k l) (i:Int)=some (if k∈(l.drop i).map (λb=>(b.toNat:Int))then .inr true else .inl ()):=by
  intro n
  induction n with
  |zero=>
   intro i hi;refine DM ?_;unfold De;simp only[];rw[Cw,zm (by omega),qO (by omega)];rfl
  | succ n ih=>
   intro i hi;have Z:i<l.length:=by omega
   have B:De k l (i:Int)=if((l[i]).toNat:Int)=k then some (.inr (.inr true))else some (.inl ((i+1:Nat):Int)):=by
    unfold De;simp only[];rw[Cw,zk (by omega),Kj Z,za,CO,Ee (by omega)]
   have hd:(l.drop i).map (λb=>(b.toNat:Int))=(l[i].toNat:Int)::(l.drop (i+1)).map (λb=>(b.toNat:Int)):=by rw[zE Z,yE]
   by_cases E:((l[i]).toNat:Int)=k
   ·rw[zk E]at B;rw[DM B,zk (by rw[hd,E];exact yo)]
   ·rw[zm E]at B;rw[DT B,ih (i+1) (by omega)];by_cases hm:k∈(l.drop (i+1)).map λb=>(b.toNat:Int)
    ·rw[zk hm,zk (by rw[hd];exact zM _ hm)]
    ·rw[zm hm,zm (by rw[hd,zT];exact λh=>h.elim (λe=>E e.symm) hm)]
 have h0:=key l.length 0 (by omega);rw[yn]at h0;have h0:loop (De k l) 0=_:=h0;rw[h0];by_cases E:k∈l.map λb=>(b.toNat:Int)
 ·rw[zk E,zi E];rfl
 ·rw[zm E,zh E];rfl
theorem HK{str:List UInt8}{seen:List Int}(hm:seen=str.map λb=>(b.toNat:Int))(C:str.length<=1000){i:Nat}{f f':Fl}{k:Int}{j:Nat}{e:Option (Fl×Int×Nat)}(he:e=some (f',k,j))(E:0<=k/\k<=255):
  ((FC k str).bind λx65=>Ae x65 (some (.inr (.inr (f'.g,f'.f,f'.x,f'.n,f'.nm,f'.sf,f'.hd,(i:Int),(11:Int))))) ((Oj k).bind λx66=>Ds (decide (str.length+([x66]:List UInt8).length<=9223372036854775807))<|some (.inl (f'.g,f'.f,f'.x,f'.n,f'.nm,f'.sf,f'.hd,(j:Int),str++([x66]:List UInt8)))))=some (SY str seen i f e):=by
 subst he;rw[aL k str C,za,<-hm];unfold SY;by_cases h:k∈seen
 ·rw[zi h,Bd];simp[h]
 ·have ht:Oj k=some (UInt8.ofNat k.toNat):=by
   unfold Oj;rw[zk (by omega)]
  rw[zh h,Az,ht,za,zi (by simp;omega),Gr];simp[h]
theorem ba{s:List UInt8}(Y:s.length<=200){i:Nat}{b:UInt8}(D:s[i]?=some b)(hd:49<=b.toNat/\b.toNat<=57):
  ∃v,loop (C5 s) (((i+1:Nat):Int),(b.toNat:Int) - 48)=some (((GL s (s.length+1) (i+1):Nat):Int),v)/\(4<GL s (s.length+1) (i+1) - i->v>9999)/\(¬4<GL s (s.length+1) (i+1) - i->v<=9999/\v=val ((s.drop i).take (GL s (s.length+1) (i+1) - i))):=by
 have hi:=(List.getElem?_eq_some_iff.1 D).1;have S:s.drop i=b::s.drop (i+1):=by rw[zE hi,(List.getElem?_eq_some_iff.1 D).2]
 have key:∀(n j:Nat),s.length<n+j->i+1<=j->j<=s.length->(∀c∈(s.drop (i+1)).take (j - (i+1)),Ss c)->
   loop (C5 s) ((j:Int),mn (val ((s.drop i).take (j - i))) 100000)=some (((GL s n j:Nat):Int),mn (val ((s.drop i).take (GL s n j - i))) 100000)/\(∀c∈(s.drop (i+1)).take (GL s n j - (i+1)),Ss c):=by
  intro n
  induction n with
  |zero=>intro j h1 X h3;omega
  | succ n ih=>
   intro j h1 X h3 H;unfold GL;cases hc:s[j]? with
   |none=>
    have hj:¬j<s.length:=λh=>by rw[List.getElem?_eq_getElem h]at hc;cases hc
    refine⟨DM ?_,H⟩;unfold C5;simp only[];rw[Cw,zm (by omega)];rfl
   | some c=>
    have hj:=(List.getElem?_eq_some_iff.1 hc).1
    have hv:=Sq (j - i) ((s.drop i).take (j - i)) (by simp;omega) (λx F=>by
     rw[S,show j - i=(j - (i+1))+1 by omega,yD,zT]at F;rcases F with rfl|F
     ·exact⟨by omega,by omega⟩
     ·exact H x F)
    have B:C5 s ((j:Int),mn (val ((s.drop i).take (j - i))) 100000)=if Ss c then some (.inl (((j+1:Nat):Int),mn (mn (val ((s.drop i).take (j - i))) 100000*10+((c.toNat:Int) - 48)) 100000))else some (.inr ((j:Int),mn (val ((s.drop i).take (j - i))) 100000)):=by
     have hm:0<=mn (val ((s.drop i).take (j - i))) 100000/\mn (val ((s.drop i).take (j - i))) 100000<=100000:=by unfold mn;split<;>omega
     have hcl:=c.toNat_lt;unfold C5;simp only[];have e:10*mn (val ((s.drop i).take (j - i))) 100000+(c.toNat:Int) - 48=mn (val ((s.drop i).take (j - i))) 100000*10+((c.toNat:Int) - 48):=by omega
     rw[Cw,zk (by omega),DZ hc];simp only[za,P8];rw[Vu,Cw,Ee (by omega),Ht (x:=10*mn (val ((s.drop i).take (j - i))) 100000) (by omega) (by omega),Ht (x:=(c.toNat:Int)) (by omega) (by omega),Ht (x:=10*mn (val ((s.drop i).take (j - i))) 100000+(c.toNat:Int)) (by omega) (by omega),Ht (by omega) (by omega),e]
    simp only[];by_cases Q:Ss c
    ·rw[zk Q]at B⊢;have ht:(s.drop i).take (j+1 - i)=(s.drop i).take (j - i)++[c]:=by
      rw[show j+1 - i=(j - i)+1 by omega];exact HG (by rw[List.getElem?_drop,show i+(j - i)=j by omega];exact hc)
     have ht2:(s.drop (i+1)).take (j+1 - (i+1))=(s.drop (i+1)).take (j - (i+1))++[c]:=by
      rw[show j+1 - (i+1)=(j - (i+1))+1 by omega];exact HG (by rw[List.getElem?_drop,show i+1+(j - (i+1))=j by omega];exact hc)
     have he:mn (mn (val ((s.drop i).take (j - i))) 100000*10+((c.toNat:Int) - 48)) 100000=mn (val ((s.drop i).take (j+1 - i))) 100000:=by
      rw[ht,OO];have hcd':=Q;unfold Ss at hcd';unfold mn
      repeat' split
      all_goals omega
     rw[DT B,he];refine ih (j+1) (by omega) (by omega) (by omega) λx F=>?_;rw[ht2,zp,zH]at F;rcases F with F|rfl
     ·exact H x F
     ·exact Q
    ·rw[zm Q]at B⊢;exact⟨DM B,H⟩
 obtain⟨k1,k2⟩:=key (s.length+1) (i+1) (by omega) (by omega) (by omega) (by simp);obtain⟨d1,d2,d3⟩:=M9 (s:=s) (s.length+1) (i+1) (by omega);have e0:mn (val ((s.drop i).take (i+1 - i))) 100000=(b.toNat:Int) - 48:=by
  rw[show i+1 - i=1 by omega,S];simp only[yD,qL,val,qE,List.foldl_nil];unfold mn;split<;>omega
 rw[e0]at k1;refine⟨_,k1,λH=>?_,λH=>?_⟩
 all_goals
  have hd2:(s.drop i).take (GL s (s.length+1) (i+1) - i)=b::(s.drop (i+1)).take (GL s (s.length+1) (i+1) - (i+1)):=by
   rw[S,show GL s (s.length+1) (i+1) - i=(GL s (s.length+1) (i+1) - (i+1))+1 by omega,yD]
 ·have h5:=Xd (GL s (s.length+1) (i+1) - (i+1)) ((s.drop (i+1)).take (GL s (s.length+1) (i+1) - (i+1))) b (by simp;omega) k2 hd.1;have h6:(10:Int)^4<=10^(GL s (s.length+1) (i+1) - (i+1)):=XM (by omega);have h7:(10:Int)^4=10000:=by decide
  rw[hd2];unfold mn;split<;>omega
 ·have h5:=Sq (GL s (s.length+1) (i+1) - i) ((s.drop i).take (GL s (s.length+1) (i+1) - i)) (by simp;omega) (λx F=>by
   rw[hd2,zT]at F;rcases F with rfl|F
   ·exact⟨by omega,by omega⟩
   ·exact k2 x F)
  have h6:(10:Int)^(GL s (s.length+1) (i+1) - i)<=10^4:=XM (by omega);have h7:(10:Int)^4=10000:=by decide
  unfold mn;split<;>omega
theorem Tf{s:List UInt8}(Y:s.length<=200){i:Nat}{b:UInt8}(D:s[i]?=some b)(f:Fl){str:List UInt8}{seen:List Int}(hm:seen=str.map λb=>(b.toNat:Int))(C:str.length<=1000):
  DV s (f.g,f.f,f.x,f.n,f.nm,f.sf,f.hd,(i:Int),str)=some (SY str seen i f (act s i b.toNat f)):=by
 have hi:=(List.getElem?_eq_some_iff.1 D).1;have e1:IntKind.i64.wrap ((i:Int)+1)=((i+1:Nat):Int):=OH (n:=1) (by omega) (by omega);unfold DV;simp only[];rw[Cw,zk (by omega),DZ D,za,e1];by_cases O:b.toNat=103
 ·obtain rfl:=IU (by omega) O;refine bind_eq (x:=.inl (f.n,((i+1:Nat):Int),103)) rfl ?_;exact bind_eq (x:=.inl (true,f.f,f.x,f.nm,f.sf,f.hd,103)) rfl (HK (f':=⟨true,f.f,f.x,f.n,f.nm,f.sf,f.hd⟩) (k:=103) (j:=i+1) hm C rfl (by decide))
 by_cases M:b.toNat=105
 ·obtain rfl:=IU (by omega) M;refine bind_eq (x:=.inl (f.n,((i+1:Nat):Int),105)) rfl ?_;exact bind_eq (x:=.inl (f.g,true,f.x,f.nm,f.sf,f.hd,105)) rfl (HK (f':=⟨f.g,true,f.x,f.n,f.nm,f.sf,f.hd⟩) (k:=105) (j:=i+1) hm C rfl (by decide))
 by_cases I:b.toNat=120
 ·obtain rfl:=IU (by omega) I;refine bind_eq (x:=.inl (f.n,((i+1:Nat):Int),120)) rfl ?_;exact bind_eq (x:=.inl (f.g,f.f,true,f.nm,f.sf,f.hd,120)) rfl (HK (f':=⟨f.g,f.f,true,f.n,f.nm,f.sf,f.hd⟩) (k:=120) (j:=i+1) hm C rfl (by decide))
 by_cases K:b.toNat=114
 ·obtain rfl:=IU (by omega) K;refine bind_eq (x:=.inl (f.n,((i+1:Nat):Int),114)) rfl ?_;exact bind_eq (x:=.inl (f.g,f.f,f.x,true,f.sf,f.hd,114)) rfl (HK (f':=⟨f.g,f.f,f.x,f.n,true,f.sf,f.hd⟩) (k:=114) (j:=i+1) hm C rfl (by decide))
 by_cases U:b.toNat=82
 ·obtain rfl:=IU (by omega) U;refine bind_eq (x:=.inl (f.n,((i+1:Nat):Int),82)) rfl ?_;exact bind_eq (x:=.inl (f.g,f.f,f.x,false,f.sf,f.hd,114)) rfl (HK (f':=⟨f.g,f.f,f.x,f.n,false,f.sf,f.hd⟩) (k:=114) (j:=i+1) hm C rfl (by decide))
 by_cases J:b.toNat=115
 ·obtain rfl:=IU (by omega) J;refine bind_eq (x:=.inl (f.n,((i+1:Nat):Int),115)) rfl ?_;exact bind_eq (x:=.inl (f.g,f.f,f.x,f.nm,true,f.hd,115)) rfl (HK (f':=⟨f.g,f.f,f.x,f.n,f.nm,true,f.hd⟩) (k:=115) (j:=i+1) hm C rfl (by decide))
 by_cases T:b.toNat=83
 ·obtain rfl:=IU (by omega) T;refine bind_eq (x:=.inl (f.n,((i+1:Nat):Int),83)) rfl ?_;exact bind_eq (x:=.inl (f.g,f.f,f.x,f.nm,false,f.hd,115)) rfl (HK (f':=⟨f.g,f.f,f.x,f.n,f.nm,false,f.hd⟩) (k:=115) (j:=i+1) hm C rfl (by decide))
 by_cases N:b.toNat=104
 ·obtain rfl:=IU (by omega) N;refine bind_eq (x:=.inl (f.n,((i+1:Nat):Int),104)) rfl ?_;exact bind_eq (x:=.inl (f.g,f.f,f.x,f.nm,f.sf,true,104)) rfl (HK (f':=⟨f.g,f.f,f.x,f.n,f.nm,f.sf,true⟩) (k:=104) (j:=i+1) hm C rfl (by decide))
 by_cases V:b.toNat=72
 ·obtain rfl:=IU (by omega) V;refine bind_eq (x:=.inl (f.n,((i+1:Nat):Int),72)) rfl ?_;exact bind_eq (x:=.inl (f.g,f.f,f.x,f.nm,f.sf,false,104)) rfl (HK (f':=⟨f.g,f.f,f.x,f.n,f.nm,f.sf,false⟩) (k:=104) (j:=i+1) hm C rfl (by decide))
 have G:act s i b.toNat f=if 49<=b.toNat/\b.toNat<=57 then
   if 4<GL s (s.length+1) (i+1) - i then none else some ({f with n:=val ((s.drop i).take (GL s (s.length+1) (i+1) - i))},49,GL s (s.length+1) (i+1))
   else none:=by
  unfold act;rw[zm O,zm M,zm I,zm K,zm U,zm J,zm T,zm N,zm V]
 by_cases hd:49<=b.toNat/\b.toNat<=57
 ·rw[zk hd]at G;obtain⟨v,l1,l2,l3⟩:=ba Y D hd;have hbl:=b.toNat_lt;rw[zi (p:=(b.toNat:Int)>=49) (by omega),zi (p:=(b.toNat:Int)<=57) (by omega),qc,Bd,Ht (x:=(b.toNat:Int)) (by omega) (by omega),Ht (x:=(b.toNat:Int) - 48) (by omega) (by omega),l1,za];simp only[];rw[Cw];by_cases H:4<GL s (s.length+1) (i+1) - i
  ·rw[zk H]at G;rw[zk (l2 H),G];rfl
  ·rw[zm H]at G;obtain⟨l4,l5⟩:=l3 H;rw[zm (by omega),l5];refine bind_eq (x:=.inl (val ((s.drop i).take (GL s (s.length+1) (i+1) - i)),((GL s (s.length+1) (i+1):Nat):Int),49)) rfl ?_;exact bind_eq (x:=.inl (f.g,f.f,f.x,f.nm,f.sf,f.hd,49)) rfl (HK (f':=⟨f.g,f.f,f.x,val ((s.drop i).take (GL s (s.length+1) (i+1) - i)),f.nm,f.sf,f.hd⟩) (k:=49) (j:=GL s (s.length+1) (i+1)) hm C G (by decide))
 ·rw[zm hd]at G;have hdb:(decide ((b.toNat:Int)>=49)&&decide ((b.toNat:Int)<=57))=false:=by
   rw[yz,zB,zB];omega
  rw[hdb,Az,G];refine bind_eq (x:=.inl (f.n,((i+1:Nat):Int),(b.toNat:Int))) rfl ?_;have h49:¬b.toNat=49:=by omega
  refine bind_eq (x:=.inr ((i:Int),(11:Int))) ?_ rfl;simp only[show((b.toNat:Int)==49)=decide (b.toNat=49) from Fw b.toNat 49,show((b.toNat:Int)==103)=decide (b.toNat=103) from Fw b.toNat 103,show((b.toNat:Int)==105)=decide (b.toNat=105) from Fw b.toNat 105,show((b.toNat:Int)==120)=decide (b.toNat=120) from Fw b.toNat 120,show((b.toNat:Int)==114)=decide (b.toNat=114) from Fw b.toNat 114,show((b.toNat:Int)==82)=decide (b.toNat=82) from Fw b.toNat 82,show((b.toNat:Int)==115)=decide (b.toNat=115) from Fw b.toNat 115,show((b.toNat:Int)==83)=decide (b.toNat=83) from Fw b.toNat 83,show((b.toNat:Int)==104)=decide (b.toNat=104) from Fw b.toNat 104,show((b.toNat:Int)==72)=decide (b.toNat=72) from Fw b.toNat 72];simp only[zh h49,zh O,zh M,zh I,zh K,zh U,zh J,zh T,zh N,zh V,OE,Az,za,Bool.or_self]
def RQ:Fl⊕Nat->(Bool×Bool×Bool×Int×Bool×Bool×Bool)⊕(Bool×Bool×Bool×Int×Bool×Bool×Bool×Int×Int)->Prop
 | .inl f,r=>r=.inl (f.g,f.f,f.x,f.n,f.nm,f.sf,f.hd)
 | .inr k,r=>∃f',r=.inr (Fl.g f',f'.f,f'.x,f'.n,f'.nm,f'.sf,f'.hd,(k:Int),11)
theorem Pd{s:List UInt8}(Y:s.length<=200):∀(n i:Nat) (f:Fl) (str:List UInt8) (seen:List Int),s.length<n+i->i<=s.length->seen=str.map (λb=>(b.toNat:Int))->str.length<=i->
  W (loop (DV s) (f.g,f.f,f.x,f.n,f.nm,f.sf,f.hd,(i:Int),str)) (RQ (PJ s n i f seen))
 |0,i,f,str,seen,h1,X,hm,C=>by omega
 | n +1,i,f,str,seen,h1,X,hm,C=>by
  unfold PJ;cases D:s[i]? with
  |none=>
   have hi:¬i<s.length:=λh=>by rw[List.getElem?_eq_getElem h]at D;cases D
   refine⟨.inl (f.g,f.f,f.x,f.n,f.nm,f.sf,f.hd),DM ?_,show RQ (.inl f) (.inl (f.g,f.f,f.x,f.n,f.nm,f.sf,f.hd)) from rfl⟩;unfold DV;simp only[];rw[Cw,zm (by omega)]
  | some b=>
   have hi:=(List.getElem?_eq_some_iff.1 D).1;have B:=Tf Y D f hm (by omega);simp only[];cases G:act s i b.toNat f with
   |none=>
    rw[G]at B;exact⟨_,DM B,f,rfl⟩
   | some x=>
    obtain⟨f',k,j⟩:=x;obtain⟨a1,a2,a3,a4⟩:=W0 hi G;rw[G]at B;simp only[];unfold SY at B;simp only[]at B;by_cases E:k∈seen
    ·rw[zk E]at B⊢;exact⟨_,DM B,f',rfl⟩
    ·rw[zm E]at B⊢;rw[DT B];refine Pd Y n j f' _ _ (by omega) a2 ?_ (by simp;omega);rw[hm,yp];have e:((UInt8.ofNat k.toNat).toNat:Int)=k:=by
      rw[UInt8.toNat_ofNat'];omega
     rw[yE,List.map_nil,e]
end Go.Av.L
end
/-
 A part.
-/
section
namespace Go.Av.L
open Go.Av Go.Lib
set_option linter.unusedVariables false
set_option linter.unusedSimpArgs false
theorem Kf{pre x post:List UInt8}{i:Nat}{b:UInt8}(h:x[i]?=some b):(pre++(x++post))[pre.length+i]?=some b:=by
 have hi:=(List.getElem?_eq_some_iff.1 h).1;rw[List.getElem?_append_right (by omega),show pre.length+i - pre.length=i by omega,List.getElem?_append_left hi,h]
theorem M7{pre x post:List UInt8}{d:Int}:∀{n i:Nat} {o o':List UInt8} {k:Nat},F5 x d n i o=some (o',k)->∀m,n<=m->F5 (pre++(x++post)) d m (pre.length+i) o=some (o',pre.length+k)
 |0,i,o,o',k,h,m,hm=>by cases h
 | n + 1,i,o,o',k,h,m,hm=>by
  obtain⟨m,rfl⟩:∃m',m=m'+1:=⟨m - 1,by omega⟩;unfold F5 at h⊢;cases D:x[i]? with
  |none=>rw[D]at h;cases h
  | some b=>
   rw[D]at h;rw[Kf D];simp only at h⊢;by_cases hd:(b.toNat:Int)=d
   ·rw[zk hd]at h⊢;cases h;rfl
   ·rw [zm hd]at h⊢;by_cases R:b.toNat=92
    ·rw[zk R]at h⊢;cases hc:x[i+1]? with
     | none=>
      rw[hc]at h;simp only at h;cases n with
      |zero=>cases h
      |succ n=>
       unfold F5 at h;rw[hc]at h;cases h
     |some c=>
      rw[hc]at h;have:=Kf (pre:=pre) (post:=post) hc;rw[zZ,this];simp only at h⊢;have:=M7 (pre:=pre) (post:=post) h m (by omega);rw[<-zZ]at this;exact this
    ·rw[zm R]at h⊢;have:=M7 (pre:=pre) (post:=post) h m (by omega);rw[<-zZ]at this;exact this
theorem VE:∀{t:List UInt8},(59:UInt8)∉t->idxOf t 59= -1
 |[],_=>rfl
 |b::t,h=>by
  rw[idxOf_cons,zm (λe=>h (by rw[e];exact yo)),VE (λhh=>h (zM _ hh))];rfl
theorem UW:∀{t r:List UInt8},(59:UInt8)∉t->idxOf (t++59::r) 59=(t.length:Int)
 |[],r,_=>by rw[ye,idxOf_cons,zk rfl];rfl
 |b::t,r,h=>by
  rw[yl,idxOf_cons,zm (λe=>h (by rw[e];exact yo)),UW (λhh=>h (zM _ hh)),zm (by omega)];simp
structure Good(x:List UInt8)(k1 k2:Nat):Prop where
 len:2<=x.length/\x.length<=60
 h0:x[0]?=some 115
 b:∃b:UInt8,x[1]?=some b/\b.toNat≠92/\b.toNat≠10/\∃o1 o2,F5 x (b.toNat:Int) (x.length+1) 2 []=some (o1,k1)/\F5 x (b.toNat:Int) (x.length+1) k1 []=some (o2,k2)
 sep:(59:UInt8)∉x.drop k2
def E9:List (List UInt8)->List UInt8
 |[]=>[]
 |[x]=>x
 |x::y::r=>x++59::E9 (y::r)
theorem QW:∀(l:List (List UInt8)) (x:List UInt8),l≠[]->E9 (l++[x])=E9 l++59::x
 |[],x,h=>absurd rfl h
 |[y],x,_=>rfl
 |y::z::r,x,_=>by
  have ih:=QW (z::r) x (by simp);simp only[yl]at ih⊢;rw[E9,E9,ih];simp
theorem Ot:∀(l:List (List UInt8)),(∀x∈l,x.length<=60)->(E9 l).length<=61*l.length
 |[],_=>by simp[E9]
 |[x],h=>by have:=h x (by simp);simp only[E9,zy];omega
 |x::y::r,h=>by
  have:=h x (by simp);have ih:=Ot (y::r) (λz hz=>h z (zM _ hz));simp only[E9,zq,zD]at ih⊢;omega
theorem Rq{s:List UInt8}{i:Nat}(hi:i<=900){b:UInt8}(h0:s[i]?=some 115)(h1:s[i+1]?=some b)(R:b.toNat≠92)(P:b.toNat≠10):DE s (i:Int)=some true:=by
 have C:=(List.getElem?_eq_some_iff.1 h1).1;have q1:∀n:Nat,((b.toNat:Int)==(n:Int))=decide (b.toNat=n):=λn=>Fw _ n;unfold DE;rw[Ee (by omega),zi (by omega),Bd,DZ h0,DZ h1];simp only[za,bne,show((b.toNat:Int)==92)=decide (b.toNat=92) from q1 92,show((b.toNat:Int)==10)=decide (b.toNat=10) from q1 10,zh R,zh P];rfl
theorem R9{pre x post:List UInt8}{k1 k2:Nat}(g:Good x k1 k2)(C:(pre++(x++post)).length<=800){b:UInt8}{o1 o2:List UInt8}(D:x[1]?=some b)
  (h1:F5 x (b.toNat:Int) (x.length+1) 2 []=some (o1,k1)) (X:F5 x (b.toNat:Int) (x.length+1) k1 []=some (o2,k2)):
  loop (Cj (pre++(x++post)) (b.toNat:Int)) (((pre.length+2:Nat):Int),0)=some (.inl ((pre.length+k2:Nat):Int)):=by
 obtain⟨l1,l2⟩:=HA h1;obtain⟨l3,l4⟩:=HA X;have hlen:(pre++(x++post)).length=pre.length+x.length+post.length:=by simp;omega
 have e1:=Kp (s:=pre++(x++post)) (d:=(b.toNat:Int)) (by omega) (i:=pre.length+2) (by have:=g.len;omega);have e2:=Kp (s:=pre++(x++post)) (d:=(b.toNat:Int)) (by omega) (i:=pre.length+k1) (by omega);rw[M7 h1 _ (by omega)]at e1;rw[M7 X _ (by omega)]at e2;have e1:CG (pre++(x++post)) ((pre.length+2:Nat):Int) (b.toNat:Int)=some (o1,((pre.length+k1:Nat):Int),true):=e1;have e2:CG (pre++(x++post)) ((pre.length+k1:Nat):Int) (b.toNat:Int)=some (o2,((pre.length+k2:Nat):Int),true):=e2;rw[DT (s':=(((pre.length+k1:Nat):Int),1)),DT (s':=(((pre.length+k2:Nat):Int),2)),DM (r:=.inl ((pre.length+k2:Nat):Int))]
 ·rfl
 ·unfold Cj;simp only[];rw[zi (by decide),Bd,e2];rfl
 ·unfold Cj;simp only[];rw[zi (by decide),Bd,e1];rfl
theorem QS(s:List UInt8):DI s 59=some (idxOf s 59):=rfl
theorem Rk:∀(r:List (List UInt8)) (pre:List UInt8) (out:List (List UInt8)),r≠[]->(∀x∈r,∃k1 k2,Good x k1 k2)->(pre++E9 r).length<=800->out.length+r.length<=10->
  loop (Dz (pre++E9 r)) (out,(pre.length:Int))=some (out++r,true)
 |[],pre,out,h,_,_,_=>absurd rfl h
 | [x],pre,out,_,hg,C,ho=>by
  obtain⟨k1,k2,g⟩:=hg x (by simp);obtain⟨b,D,R,P,o1,o2,p1,p2⟩:=g.b;obtain⟨l3,l4⟩:=HA p2;have hlx:=g.len;have e:pre++E9 [x]=pre++(x++[]):=by simp[E9]
  rw[e]at C⊢;have hlen:(pre++(x++[])).length=pre.length+x.length:=by simp
  refine DM ?_;unfold Dz;simp only[]
  rw[Rq (by omega) (by have:=Kf (pre:=pre) (post:=[]) g.h0;simpa using this) (Kf (post:=[]) D) R P,za,z6,Az,Ee (by omega),DZ (Kf (post:=[]) D),za,
   show IntKind.i64.wrap ((pre.length:Int)+2)=((pre.length+2:Nat):Int) from OH (n:=2) (by omega) (by omega),R9 g C D p1 p2,za]
  simp only[];have hd:(pre++(x++[])).drop (pre.length+k2)=x.drop k2:=by
   rw[yr,<-yB,qn]
  rw[Lm (by omega),za,hd,QS,VE g.sep,za,zi (by decide),Bd,Lm (by omega),za,qn,yr,DL (by simp;omega) (by simp;omega)];rfl
 | x::y::r,pre,out,_,hg,C,ho=>by
  obtain⟨k1,k2,g⟩:=hg x (by simp);obtain⟨b,D,R,P,o1,o2,p1,p2⟩:=g.b;obtain⟨l3,l4⟩:=HA p2;have hlx:=g.len;have e:pre++E9 (x::y::r)=pre++(x++(59::E9 (y::r))):=by simp[E9]
  have e':pre++(x++(59::E9 (y::r)))=(pre++(x++[59]))++E9 (y::r):=by simp
  rw[e]at C⊢;have hlen:(pre++(x++(59::E9 (y::r)))).length=pre.length+x.length+(E9 (y::r)).length+1:=by simp;omega
  have hd:(pre++(x++(59::E9 (y::r)))).drop (pre.length+k2)=x.drop k2++59::E9 (y::r):=by
   rw[<-yB,qn,yQ l4]
  have hx17:((pre++(x++(59::E9 (y::r)))).drop pre.length).take (pre.length+x.length - pre.length)=x:=by
   rw[qn,show pre.length+x.length - pre.length=x.length by omega,yX]
  have hdl:((x.drop k2).length:Int)=(x.length:Int) - k2:=by rw[zL];omega
  have B:Dz (pre++(x++(59::E9 (y::r)))) (out,(pre.length:Int))=some (.inl (out++[x],((pre++(x++[59])).length:Int))):=by
   unfold Dz;simp only[]
   rw[Rq (by omega) (by have:=Kf (pre:=pre) (post:=59::E9 (y::r)) g.h0;simpa using this) (Kf D) R P,za,z6,Az,Ee (by omega),DZ (Kf D),za,
    show IntKind.i64.wrap ((pre.length:Int)+2)=((pre.length+2:Nat):Int) from OH (n:=2) (by omega) (by omega),R9 g C D p1 p2,za]
   simp only[]
   rw[Lm (by omega),za,hd,QS,UW g.sep,za,zh (by omega),Az,Ht (x:=((pre.length+k2:Nat):Int)+((x.drop k2).length:Int)) (by omega) (by omega),Ht (x:=((x.drop k2).length:Int)+1) (by omega) (by omega),Ht (by omega) (by omega),
    show((pre.length+k2:Nat):Int)+((x.drop k2).length:Int)=((pre.length+x.length:Nat):Int) by omega,HF (by omega) (by omega),hx17,za,DL (by simp;omega) (by simp;omega),Gr]
   congr 3;simp only[zq,zy];omega
  rw[DT B,e',Rk (y::r) (pre++(x++[59])) (out++[x]) (by simp) (λz hz=>hg z (zM _ hz)) (by rw[<-e'];exact C) (by simp at ho⊢;omega)];simp
end Go.Av.L
end
