/-
  Several texts in one.
-/
import Derived.Test.YtgkbpgefomapgaaGreatDoorRwL
/-
 A part.
-/
section
namespace Go.Av.L
open Go.Av Go.Lib
set_option linter.unusedVariables false
set_option linter.unusedSimpArgs false
theorem UB{s:List UInt8}(E:s.length<=200):∀(n i:Nat),s.length<n+i->i<=s.length->loop (DU s) (i:Int)=some ((GL s n i:Nat):Int)
 |0,i,h1,T=>by omega
 | n+1,i,h1,T=>by
  unfold GL;cases C:s[i]? with
  |none=>
   have hi:¬i<s.length:=λh=>by rw[List.getElem?_eq_getElem h]at C;cases C
   refine DM ?_;unfold DU;simp only[];rw[Cw,zm (by omega)];rfl
  | some b=>
   have hi:=(List.getElem?_eq_some_iff.1 C).1;have B:DU s (i:Int)=if Ss b then some (.inl ((i+1:Nat):Int))else some (.inr (i:Int)):=by
    unfold DU;simp only[];rw[Cw,zk (by omega),DZ C];simp only[za,P8];rw[Vu,Cw,Ee (by omega)]
   simp only[];by_cases hd:Ss b
   ·rw[zk hd]at B⊢;rw[DT B];exact UB E n (i+1) (by omega) (by omega)
   ·rw[zm hd]at B⊢;exact DM B
theorem YO{t:List UInt8}(h0:0<t.length)(h4:t.length<=4)(hd:∀b∈t,Ss b):Hc t=some (val t):=by
 obtain⟨b,r,rfl⟩:∃b r,t=b::r:=by cases t with|nil=>simp at h0|cons b r=>exact⟨b,r,rfl⟩
 have C:=hd b (by simp);unfold Ss at C;have l1:loop (Ec (b::r)) ((0:Int),(0:Int))=some (val (b::r)):=by
  have key:∀n j,n+j=(b::r).length->loop (Ec (b::r)) (val ((b::r).take j),(j:Int))=some (val (b::r)):=by
   intro n
   induction n with
   |zero=>
    intro j K;refine DM ?_;unfold Ec;simp only[];rw[Cw,zm (by omega),zU (Nat.le_of_eq (by omega))]
   | succ n ih=>
    intro j K;have hlt:j<(b::r).length:=by omega
    obtain⟨c,hc⟩:∃c,(b::r)[j]?=some c:=⟨_,List.getElem?_eq_getElem hlt⟩;have hcd:=hd c (zI hc);have hv:=Sq j ((b::r).take j) (by rw[zP];omega) (λx hx=>hd x (yP hx));have hv2:(10:Int)^j<=10^4:=by
     rcases(by omega:j=0\/j=1\/j=2\/j=3\/j=4)with rfl|rfl|rfl|rfl|rfl<;>decide
    have hv3:(10:Int)^4=10000:=by decide
    unfold Ss at hcd;rw[DT (s':=(val ((b::r).take (j+1)),((j+1:Nat):Int)))]
    ·exact ih (j+1) (by omega)
    ·unfold Ec;simp only[];rw[Cw,zk (by omega),G4 hc,za,aQ (by omega) (by omega),Cw,zm (by omega),Ee (by omega),Ht (x:=(c.toNat:Int) - 48) (by omega) (by omega),Ht (x:=val (List.take j (b::r))*10) (by omega) (by omega),Ht (by omega) (by omega),HG hc,OO]
  exact key (b::r).length 0 (by omega)
 have hx0:IA (b::r) 0=some (b.toNat:Int):=Ti;have h45:((b.toNat:Int)==45)=false:=(Fw b.toNat 45).trans (zh (by omega));have h43:((b.toNat:Int)==43)=false:=(Fw b.toNat 43).trans (zh (by omega));unfold Hc Hm;rw[zi (p:=(0:Int)<((b::r).length:Int)) (by omega),zi (p:=((b::r).length:Int)<19) (by omega),qc,Bd,hx0];simp only[za,h45,h43,Az];rw[zi (by omega),Gr,l1];rfl
theorem WA(m:List (Int×Bool))(k:Int)(v:Bool)(n:Int):Cy (CZ m k v) n=if n=k then some v else Cy m n:=by
 induction m with
 |nil=>simp only[CZ,Cy]
 | cons p r ih=>
  obtain⟨k',v'⟩:=p;simp only[CZ];by_cases I:k=k'
  ·rw[zk I];simp only[Cy];by_cases F:n=k
   ·rw[zk F,zk F]
   ·rw[zm F,zm F,zm (by rw[<-I];exact F)]
  ·rw[zm I];simp only[Cy];by_cases F:n=k'
   ·rw[zk F,zk F,zm (by rw[F];exact λh=>I h.symm)]
   ·rw[zm F,zm F,ih]
def OM(m:List (Int×Bool))(seen:List Int):Prop:=∀k,(Cy m k).getD false=decide (k∈seen)
theorem OM.nil:OM [] []:=λk=>by simp[Cy]
theorem OM.put{m:List (Int×Bool)}{seen:List Int}(h:OM m seen)(k:Int):OM (CZ m k true) (seen++[k]):=λn=>by
 rw[WA];by_cases F:n=k
 ·subst F;simp
 ·rw[zm F,h n];simp[F]
abbrev PS:=(List (Int×Bool))×Bool×Bool×Bool×Int×Bool×Bool×Bool×Int
def Sb(m:List (Int×Bool))(seen:List Int)(i:Nat)(f:Fl):Option (Fl×Int×Nat)->PS⊕(((List (Int×Bool))×Bool×Bool×Bool×Int×Bool×Bool×Bool)⊕PS)
 |none=>.inr (.inr (m,f.g,f.f,f.x,f.n,f.nm,f.sf,f.hd,(i:Int)))
 |some (f',k,j)=>if k∈seen then .inr (.inr (m,f'.g,f'.f,f'.x,f'.n,f'.nm,f'.sf,f'.hd,(i:Int)))else .inl (CZ m k true,f'.g,f'.f,f'.x,f'.n,f'.nm,f'.sf,f'.hd,(j:Int))
theorem HJ{m:List (Int×Bool)}{seen:List Int}(hm:OM m seen){i:Nat}{f f':Fl}{k:Int}{j:Nat}{e:Option (Fl×Int×Nat)}(he:e=some (f',k,j)):
  Ae ((Cy m k).getD false) (some (.inr (.inr (m,f'.g,f'.f,f'.x,f'.n,f'.nm,f'.sf,f'.hd,(i:Int))))) (some (.inl (CZ m k true,f'.g,f'.f,f'.x,f'.n,f'.nm,f'.sf,f'.hd,(j:Int))))=some (Sb m seen i f e):=by
 subst he;rw[hm k];unfold Sb;by_cases I:k∈seen
 ·rw[zi I,Bd];simp[I]
 ·rw[zh I,Az];simp[I]
theorem bV{b:Nat}(h:¬(49<=b/\b<=57)):(decide (b=49)||(decide (b=50)||(decide (b=51)||(decide (b=52)||(decide (b=53)||(decide (b=54)||(decide (b=55)||(decide (b=56)||decide (b=57)))))))))=false:=by
 simp only[zG,zB];omega
theorem bZ{b:Nat}(h:49<=b/\b<=57):(decide (b=49)||(decide (b=50)||(decide (b=51)||(decide (b=52)||(decide (b=53)||(decide (b=54)||(decide (b=55)||(decide (b=56)||decide (b=57)))))))))=true:=by
 simp only[zW,zx];omega
theorem U2{s:List UInt8}(E:s.length<=200){i:Nat}{b:UInt8}(C:s[i]?=some b)(f:Fl){m:List (Int×Bool)}{seen:List Int}(hm:OM m seen):
  DW s (m,f.g,f.f,f.x,f.n,f.nm,f.sf,f.hd,(i:Int))=some (Sb m seen i f (act s i b.toNat f)):=by
 have hi:=(List.getElem?_eq_some_iff.1 C).1;have e1:IntKind.i64.wrap ((i:Int)+1)=((i+1:Nat):Int):=OH (n:=1) (by omega) (by omega);unfold DW;simp only[];rw[Cw,zk (by omega),DZ C,za,e1];by_cases S:b.toNat=103
 ·obtain rfl:=IU (by omega) S;exact bind_eq (x:=.inl (true,f.f,f.x,f.n,f.nm,f.sf,f.hd,((i+1:Nat):Int),103)) rfl (HJ (f':=⟨true,f.f,f.x,f.n,f.nm,f.sf,f.hd⟩) (k:=103) (j:=i+1) hm rfl)
 by_cases P:b.toNat=105
 ·obtain rfl:=IU (by omega) P;exact bind_eq (x:=.inl (f.g,true,f.x,f.n,f.nm,f.sf,f.hd,((i+1:Nat):Int),105)) rfl (HJ (f':=⟨f.g,true,f.x,f.n,f.nm,f.sf,f.hd⟩) (k:=105) (j:=i+1) hm rfl)
 by_cases M:b.toNat=120
 ·obtain rfl:=IU (by omega) M;exact bind_eq (x:=.inl (f.g,f.f,true,f.n,f.nm,f.sf,f.hd,((i+1:Nat):Int),120)) rfl (HJ (f':=⟨f.g,f.f,true,f.n,f.nm,f.sf,f.hd⟩) (k:=120) (j:=i+1) hm rfl)
 by_cases O:b.toNat=114
 ·obtain rfl:=IU (by omega) O;exact bind_eq (x:=.inl (f.g,f.f,f.x,f.n,true,f.sf,f.hd,((i+1:Nat):Int),114)) rfl (HJ (f':=⟨f.g,f.f,f.x,f.n,true,f.sf,f.hd⟩) (k:=114) (j:=i+1) hm rfl)
 by_cases h82:b.toNat=82
 ·obtain rfl:=IU (by omega) h82;exact bind_eq (x:=.inl (f.g,f.f,f.x,f.n,false,f.sf,f.hd,((i+1:Nat):Int),114)) rfl (HJ (f':=⟨f.g,f.f,f.x,f.n,false,f.sf,f.hd⟩) (k:=114) (j:=i+1) hm rfl)
 by_cases N:b.toNat=115
 ·obtain rfl:=IU (by omega) N;exact bind_eq (x:=.inl (f.g,f.f,f.x,f.n,f.nm,true,f.hd,((i+1:Nat):Int),115)) rfl (HJ (f':=⟨f.g,f.f,f.x,f.n,f.nm,true,f.hd⟩) (k:=115) (j:=i+1) hm rfl)
 by_cases h83:b.toNat=83
 ·obtain rfl:=IU (by omega) h83;exact bind_eq (x:=.inl (f.g,f.f,f.x,f.n,f.nm,false,f.hd,((i+1:Nat):Int),115)) rfl (HJ (f':=⟨f.g,f.f,f.x,f.n,f.nm,false,f.hd⟩) (k:=115) (j:=i+1) hm rfl)
 by_cases R:b.toNat=104
 ·obtain rfl:=IU (by omega) R;exact bind_eq (x:=.inl (f.g,f.f,f.x,f.n,f.nm,f.sf,true,((i+1:Nat):Int),104)) rfl (HJ (f':=⟨f.g,f.f,f.x,f.n,f.nm,f.sf,true⟩) (k:=104) (j:=i+1) hm rfl)
 by_cases h72:b.toNat=72
 ·obtain rfl:=IU (by omega) h72;exact bind_eq (x:=.inl (f.g,f.f,f.x,f.n,f.nm,f.sf,false,((i+1:Nat):Int),104)) rfl (HJ (f':=⟨f.g,f.f,f.x,f.n,f.nm,f.sf,false⟩) (k:=104) (j:=i+1) hm rfl)
 have q:∀n:Nat,((b.toNat:Int)==(n:Int))=decide (b.toNat=n):=λn=>Fw _ n;have D:act s i b.toNat f=if 49<=b.toNat/\b.toNat<=57 then
   if 4<GL s (s.length+1) (i+1) - i then none else some ({f with n:=val ((s.drop i).take (GL s (s.length+1) (i+1) - i))},49,GL s (s.length+1) (i+1))
   else none:=by
  unfold act;rw[zm S,zm P,zm M,zm O,zm h82,zm N,zm h83,zm R,zm h72]
 simp only[show((b.toNat:Int)==103)=decide (b.toNat=103) from Fw b.toNat 103,show((b.toNat:Int)==105)=decide (b.toNat=105) from Fw b.toNat 105,show((b.toNat:Int)==120)=decide (b.toNat=120) from Fw b.toNat 120,show((b.toNat:Int)==114)=decide (b.toNat=114) from Fw b.toNat 114,show((b.toNat:Int)==82)=decide (b.toNat=82) from Fw b.toNat 82,show((b.toNat:Int)==115)=decide (b.toNat=115) from Fw b.toNat 115,show((b.toNat:Int)==83)=decide (b.toNat=83) from Fw b.toNat 83,show((b.toNat:Int)==104)=decide (b.toNat=104) from Fw b.toNat 104,show((b.toNat:Int)==72)=decide (b.toNat=72) from Fw b.toNat 72,show((b.toNat:Int)==49)=decide (b.toNat=49) from Fw b.toNat 49,show((b.toNat:Int)==50)=decide (b.toNat=50) from Fw b.toNat 50,show((b.toNat:Int)==51)=decide (b.toNat=51) from Fw b.toNat 51,show((b.toNat:Int)==52)=decide (b.toNat=52) from Fw b.toNat 52,show((b.toNat:Int)==53)=decide (b.toNat=53) from Fw b.toNat 53,show((b.toNat:Int)==54)=decide (b.toNat=54) from Fw b.toNat 54,show((b.toNat:Int)==55)=decide (b.toNat=55) from Fw b.toNat 55,show((b.toNat:Int)==56)=decide (b.toNat=56) from Fw b.toNat 56,show((b.toNat:Int)==57)=decide (b.toNat=57) from Fw b.toNat 57];simp only[zh S,zh P,zh M,zh O,zh h82,zh N,zh h83,zh R,zh h72,OE,Az,za,Bool.or_self];obtain⟨d1,d2,d3⟩:=M9 (s:=s) (s.length+1) (i+1) (by omega);by_cases hd:49<=b.toNat/\b.toNat<=57
 ·rw [zk hd]at D;rw[bZ hd,Bd,UB E (s.length+1) (i+1) (by omega) (by omega),za,Cw,Ht (by omega) (by omega)];by_cases h4:4<GL s (s.length+1) (i+1) - i
  ·rw[zk h4]at D;rw[zk (by omega),D];rfl
  ·rw[zm h4]at D;rw[zm (by omega),HF (by omega) (by omega),za,YO (by simp;omega) (by simp;omega) (λc hc=>?_),za,za]
   ·exact HJ (f':=⟨f.g,f.f,f.x,val ((s.drop i).take (GL s (s.length+1) (i+1) - i)),f.nm,f.sf,f.hd⟩) (k:=49) (j:=GL s (s.length+1) (i+1)) hm D
   ·obtain⟨j,K⟩:=List.getElem?_of_mem hc;have V:=(List.getElem?_eq_some_iff.1 K).1;simp only[zP,zL]at V;rw[List.getElem?_take,zk (by omega),List.getElem?_drop]at K;by_cases h0:j=0
    ·subst h0;rw[yV,C]at K;cases K;exact⟨by omega,by omega⟩
    ·exact d3 (i+j) c (by omega) (by omega) K
 ·rw[zm hd]at D;rw[bV hd,Az,D];rfl
def PQ:Fl⊕Nat->((List (Int×Bool))×Bool×Bool×Bool×Int×Bool×Bool×Bool)⊕PS->Prop
 | .inl f,r=>∃m,r=.inl (m,f.g,f.f,f.x,f.n,f.nm,f.sf,f.hd)
 | .inr k,r=>∃m f',r=.inr (m,Fl.g f',f'.f,f'.x,f'.n,f'.nm,f'.sf,f'.hd,(k:Int))
theorem Q3{s:List UInt8}(E:s.length<=200):∀(n i:Nat) (f:Fl) (m:List (Int×Bool)) (seen:List Int),s.length<n+i->i<=s.length->OM m seen->
  W (loop (DW s) (m,f.g,f.f,f.x,f.n,f.nm,f.sf,f.hd,(i:Int))) (PQ (PJ s n i f seen))
 |0,i,f,m,seen,h1,T,hm=>by omega
 | n +1,i,f,m,seen,h1,T,hm=>by
  unfold PJ;cases C:s[i]? with
  |none=>
   have hi:¬i<s.length:=λh=>by rw[List.getElem?_eq_getElem h]at C;cases C
   refine⟨_,DM (r:=.inl (m,f.g,f.f,f.x,f.n,f.nm,f.sf,f.hd)) ?_,m,rfl⟩;unfold DW;simp only[];rw[Cw,zm (by omega)]
  | some b=>
   have hi:=(List.getElem?_eq_some_iff.1 C).1;have B:=U2 E C f hm;simp only[];cases D:act s i b.toNat f with
   |none=>
    rw[D]at B;exact⟨_,DM B,m,f,rfl⟩
   | some x=>
    obtain⟨f',k,j⟩:=x;obtain⟨a1,a2,a3⟩:=W0 hi D;rw[D]at B;simp only[];unfold Sb at B;simp only[]at B;by_cases I:k∈seen
    ·rw[zk I]at B⊢;exact⟨_,DM B,m,f',rfl⟩
    ·rw[zm I]at B⊢;rw[DT B];exact Q3 E n j f' _ _ (by omega) a2 (hm.put k)
def Rx:A9:=⟨[],[],false,false,false,0,false,false,false⟩
def cH(e:A9):Cz:=⟨e.Re,e.Cg,e.Global,e.Fold,e.FV,e.Number,e.Names,e.NH,e.Ou⟩
theorem My{s:List UInt8}{d:Int}:∀{n i:Nat} {o o':List UInt8} {k:Nat},F5 s d n i o=some (o',k)->o'.length+i<=o.length+k
 |0,i,o,o',k,h=>by cases h
 | n +1,i,o,o',k,h=>by
  unfold F5 at h;cases C:s[i]? with
  |none=>rw[C]at h;cases h
  | some b=>
   rw[C]at h;simp only at h;by_cases hd:(b.toNat:Int)=d
   ·rw[zk hd]at h;cases h;omega
   ·rw[zm hd]at h;by_cases h9:b.toNat=92
    ·rw[zk h9]at h;cases hc:s[i+1]? with
     |none=>
      rw[hc]at h;have:=My h;simp only[zq,zy]at this;omega
     |some c=>
      rw[hc]at h;have:=My h;split at this<;>simp only[zq,zD,zQ]at this<;>omega
    ·rw[zm h9]at h;have:=My h;simp only[zq,zy]at this;omega
theorem both{s:List UInt8}(E:s.length<=200):∃e a r,Eg s=some (e,a,r)/\Df s=some (cH e,a,r)/\e.Cg.length<=s.length:=by
 match s,E with
 |[],_=>exact⟨Rx,0,11,rfl,rfl,zS _⟩
 |[a],_=>exact⟨Rx,0,11,rfl,rfl,zS _⟩
 | a ::b::t,E=>
  obtain⟨s,es⟩:∃s,s=a::b::t:=⟨_,rfl⟩;have h0:IA s 0=some (a.toNat:Int):=by rw[es];exact Ti
  have h1:IA s 1=some (b.toNat:Int):=DZ (i:=1) (by rw[es];rfl);have w1:IntKind.i64.wrap (0+1)=1:=by decide
  have hl:(2:Int)<=s.length:=by rw[es];simp;omega
  rw[<-es]at E⊢;have q0:∀n:Nat,((a.toNat:Int)==(n:Int))=decide (a.toNat=n):=λn=>Fw _ n;have q1:∀n:Nat,((b.toNat:Int)==(n:Int))=decide (b.toNat=n):=λn=>Fw _ n;have U:DE s 0=some (decide (a.toNat=115/\b.toNat≠92/\b.toNat≠10)):=by
   unfold DE;rw[w1,zi (by omega),Bd,h0];simp only[za,h1,bne,show((a.toNat:Int)==115)=decide (a.toNat=115) from q0 115,show((b.toNat:Int)==92)=decide (b.toNat=92) from q1 92,show((b.toNat:Int)==10)=decide (b.toNat=10) from q1 10,P8];by_cases c1:a.toNat=115<;>by_cases c2:b.toNat=92<;>by_cases c3:b.toNat=10<;>simp[c1,c2,c3]
  have hrb:∀X Y:Option (Cz×Int×Int),((Ae (decide ((s.length:Int)<(2:Int))) (some true) ((IA s (0:Int)).bind λx2=>some (x2 !=(115:Int))):Option (Bool)).bind λx1=>(Ae x1 (some true) ((IA s (1:Int)).bind λx4=>some (x4==(92:Int))):Option (Bool)).bind λx3=>(Ae x3 (some true) ((IA s (1:Int)).bind λx6=>some (x6==(10:Int))):Option (Bool)).bind λx5=>Ae x5 X Y)=if a.toNat=115/\b.toNat≠92/\b.toNat≠10 then Y else X:=by
   intro X Y;rw[zh (by omega),Az,h0];simp only[za,h1,bne,show((a.toNat:Int)==115)=decide (a.toNat=115) from q0 115,show((b.toNat:Int)==92)=decide (b.toNat=92) from q1 92,show((b.toNat:Int)==10)=decide (b.toNat=10) from q1 10,OE];by_cases c1:a.toNat=115<;>by_cases c2:b.toNat=92<;>by_cases c3:b.toNat=10<;>simp[c1,c2,c3,Ae]
  by_cases hB:a.toNat=115/\b.toNat≠92/\b.toNat≠10
  ·have p1:CG s 2 (b.toNat:Int)=some (bB s (F5 s (b.toNat:Int) (s.length+1) 2 [])):=Kp (by omega) (i:=2) (by omega);have r1:Cc s 2 (b.toNat:Int)=some (aX (F5 s (b.toNat:Int) (s.length+1) 2 [])):=Td (by omega) (i:=2) (by omega);unfold Eg Df;rw[hrb,zk hB,U,za,zi hB,z6,Az,h1,za,za];cases J:F5 s (b.toNat:Int) (s.length+1) 2 []with
   |none=>
    have p1':CG s 2 (b.toNat:Int)=some ([],(s.length:Int),false):=by rw[p1,J];rfl
    have r1':Cc s 2 (b.toNat:Int)=some ([],-1):=by rw[r1,J];rfl
    rw[p1',r1'];exact⟨Rx,(s.length:Int),11,rfl,rfl,zS _⟩
   | some x=>
    obtain⟨o1,k1⟩:=x;obtain⟨l1,l2⟩:=HA J;have p1':CG s 2 (b.toNat:Int)=some (o1,(k1:Int),true):=by rw[p1,J];rfl
    have r1':Cc s 2 (b.toNat:Int)=some (o1,(k1:Int)):=by rw[r1,J];rfl
    have p2:=Kp (s:=s) (d:=(b.toNat:Int)) (by omega) (i:=k1) l2;have r2:=Td (s:=s) (d:=(b.toNat:Int)) (by omega) (i:=k1) l2;rw[p1',r1',za,za];simp only[z6,Az];rw[zh (p:=(k1:Int)<0) (by omega),Az,za,za];cases H:F5 s (b.toNat:Int) (s.length+1) k1 []with
    |none=>
     have p2':CG s (k1:Int) (b.toNat:Int)=some ([],(s.length:Int),false):=by rw[p2,H];rfl
     have r2':Cc s (k1:Int) (b.toNat:Int)=some ([],-1):=by rw[r2,H];rfl
     rw[p2',r2'];exact⟨Rx,(s.length:Int),11,rfl,rfl,zS _⟩
    | some x=>
     obtain⟨o2,k2⟩:=x;obtain⟨l3,l4⟩:=HA H;have p2':CG s (k1:Int) (b.toNat:Int)=some (o2,(k2:Int),true):=by rw[p2,H];rfl
     have r2':Cc s (k1:Int) (b.toNat:Int)=some (o2,(k2:Int)):=by rw[r2,H];rfl
     rw[p2',r2',za,za];simp only[z6,Az];rw[zh (p:=(k2:Int)<0) (by omega),Az];obtain⟨r,e1,hr⟩:=Q3 E (s.length+1) k2 ⟨false,false,false,1,true,true,true⟩ [] [] (by omega) l4 OM.nil;obtain⟨r',e2,G⟩:=Pd E (s.length+1) k2 ⟨false,false,false,1,true,true,true⟩ [] [] (by omega) l4 rfl (by simp);unfold GQ;simp only[]at e1 e2⊢;rw[e1,e2,za,za];cases hf:PJ s (s.length+1) k2 ⟨false,false,false,1,true,true,true⟩ []with
     |inl f=>
      rw[hf]at hr G;obtain⟨m,rfl⟩:=hr;have G:r'=_:=G;subst G;exact⟨⟨o1,o2,f.g,f.f,f.x,f.n,f.nm,f.sf,f.hd⟩,0,0,rfl,rfl,by have:=My H;simp only[zQ]at this⊢;omega⟩
     |inr k=>
      rw[hf]at hr G;obtain⟨m,f',rfl⟩:=hr;obtain⟨f2,rfl⟩:=G;refine⟨Rx,(k:Int),11,?_,rfl,zS _⟩;simp only[za];rw[zi (p:=(k:Int)>=0) (by omega),Bd];rfl
  ·refine⟨Rx,0,11,?_,?_,zS _⟩
   ·unfold Eg;rw[U,za,zh hB];rfl
   ·unfold Df;rw[hrb,zm hB];rfl
end Go.Av.L
end
/-
 A part.
-/
section
namespace Go.Av.L
open Go.Av Go.Lib
set_option linter.unusedVariables false
set_option linter.unusedSimpArgs false
theorem Uh{s:List UInt8}{i:Nat}(hi:i<=900):W (DE s (i:Int)) λb=>b=true->∃c:UInt8,s[i]?=some 115/\s[i+1]?=some c/\c.toNat≠92/\c.toNat≠10:=by
 unfold DE;rw[Ee (by omega)];by_cases h:i+1<s.length
 ·obtain⟨a,D⟩:∃a,s[i]?=some a:=⟨_,List.getElem?_eq_getElem (by omega)⟩;obtain⟨c,hc⟩:∃a,s[i+1]?=some a:=⟨_,List.getElem?_eq_getElem h⟩;rw[zi (by omega),Bd,DZ D,DZ hc];simp only[za,bne,show((a.toNat:Int)==115)=decide (a.toNat=115) from Fw _ 115,show((c.toNat:Int)==92)=decide (c.toNat=92) from Fw _ 92,show((c.toNat:Int)==10)=decide (c.toNat=10) from Fw _ 10];by_cases c1:a.toNat=115
  ·rw[zi c1,Bd,za];by_cases c2:c.toNat=92
   ·rw[zi c2];exact AB λe=>by cases e
   ·rw[zh c2,qk,Bd,za];refine AB λe=>⟨c,?_,hc,c2,by simpa using e⟩;rw[D,IU (by omega) c1];rfl
  ·rw[zh c1];exact AB λe=>by cases e
 ·rw[zh (by omega)];exact AB λe=>by cases e
theorem Yy{s:List UInt8}{d:Int}(E:s.length<=900){i:Nat}(hi:i<=s.length):W (loop (Cj s d) ((i:Int),(0:Int))) λo=>match o with
  | .inl k=>∃(o1:List UInt8) (k1:Nat) (o2:List UInt8) (k2:Nat),k=(k2:Int)/\F5 s d (s.length+1) i []=some (o1,k1)/\F5 s d (s.length+1) k1 []=some (o2,k2)
  | .inr b=>b=false:=by
 cases h1:F5 s d (s.length+1) i []with
 |none=>
  have e1:CG s (i:Int) d=some ([],(s.length:Int),false):=by rw[Kp E hi,h1];rfl
  refine⟨_,DM (r:=.inr false) ?_,rfl⟩;unfold Cj;dsimp only;rw[zi (by decide),Bd,e1];rfl
 | some p=>
  obtain⟨o1,k1⟩:=p;have l1:=HA h1;have e1:CG s (i:Int) d=some (o1,(k1:Int),true):=by rw[Kp E hi,h1];rfl
  rw[DT (s':=((k1:Int),1)) (by
   unfold Cj;dsimp only;rw[zi (by decide),Bd,e1]
   rfl)]
  cases T:F5 s d (s.length+1) k1 []with
  |none=>
   have e2:CG s (k1:Int) d=some ([],(s.length:Int),false):=by rw[Kp E l1.2,T];rfl
   refine⟨_,DM (r:=.inr false) ?_,rfl⟩;unfold Cj;dsimp only;rw[zi (by decide),Bd,e2];rfl
  | some p=>
   obtain⟨o2,k2⟩:=p;have e2:CG s (k1:Int) d=some (o2,(k2:Int),true):=by rw[Kp E l1.2,T];rfl
   rw[DT (s':=((k2:Int),2)) (by
    unfold Cj;dsimp only;rw[zi (by decide),Bd,e2]
    rfl)]
   have e3:loop (Cj s d) ((k2:Int),(2:Int))=some (.inl (k2:Int)):=DM (by unfold Cj;rfl);exact VM e3 ⟨o1,k1,o2,k2,rfl,rfl,T⟩
theorem XH(t:List UInt8):(idxOf t 59= -1/\(59:UInt8)∉t)\/∃j:Nat,idxOf t 59=(j:Int)/\j<t.length:=by
 by_cases h:(59:UInt8)∈t
 ·obtain⟨a,b,rfl,D⟩:=List.eq_append_cons_of_mem h;exact .inr ⟨a.length,UW D,by simp⟩
 ·exact .inl ⟨VE h,h⟩
theorem W9{x:List UInt8}(T:2<=x.length)(h60:x.length<=60):W (EB x) λr=>r.2=true->r.1.length=1->∃k1 k2,Good x k1 k2:=by
 unfold EB;refine AJ (W.mono (W.loop (λu=>∃i:Nat,u.2=(i:Int)/\i<=x.length/\u.1.length<=i/\(i=0/\u.1=[]\/1<=u.1.length)) (λu=>(x.length - u.2).toNat) ⟨0,rfl,by omega,by simp,.inl ⟨rfl,rfl⟩⟩ ?_ (Q:=λr=>r.2=true->r.1.length=1->∃k1 k2,Good x k1 k2)) λr hr=>AB hr);rintro⟨out,_⟩ ⟨i,rfl,hi,ho,hc⟩;dsimp only at ho hc;unfold Dz;dsimp only;refine AJ ((Uh (s:=x) (i:=i) (by omega)).mono λb C=>?_);cases b with
 |false=>exact AB λe=>by cases e
 | true=>
  obtain⟨c,D,Z,hc2,hc3⟩:=C rfl;have hlt:=(List.getElem?_eq_some_iff.1 Z).1;rw[z6,Az,Ee (by omega),DZ Z,za,show IntKind.i64.wrap ((i:Int)+2)=((i+2:Nat):Int) from OH (n:=2) (by omega) (by omega)];refine AJ ((Yy (d:=(c.toNat:Int)) (by omega) (show i+2<=x.length by omega)).mono λo hq=>?_);rcases o with k|b
  ·obtain⟨o1,k1,o2,k2,rfl,p1,p2⟩:=hq;have l1:=HA p1;have l2:=HA p2;dsimp only;rw[Lm l2.2,za,QS,za];rcases XH (x.drop k2)with⟨K,F⟩|⟨j,K,V⟩
   ·rw[K,zi (by decide),Bd,Lm hi,za];refine Ce (DL (by simp;omega) (by simp;omega)) (AB λ_ hl=>?_);have h0:i=0:=by
     rcases hc with⟨h,_⟩|h
     ·exact h
     ·simp only[zq,zy]at hl;omega
    subst h0;exact⟨k1,k2,⟨T,h60⟩,D,⟨c,Z,hc2,hc3,o1,o2,p1,p2⟩,F⟩
   ·rw[zL]at V;rw[K,zh (by omega),Az,Ht (x:=(k2:Int)+(j:Int)) (by omega) (by omega),Ee (by omega),show(k2:Int)+(j:Int)=((k2+j:Nat):Int) by omega,HF (by omega) (by omega),za];refine Ce (DL (by simp;omega) (by simp;omega)) (AB ⟨⟨k2+(j+1),?_,by omega,by simp;omega,.inr (by simp)⟩,?_⟩)
    ·dsimp only;rw[Ht (by omega) (by omega)];omega
    ·dsimp only;rw[Ht (by omega) (by omega)];omega
  ·cases hq;exact AB λe=>by cases e
end Go.Av.L
end
