/-
  Several texts in one.
-/
import Derived.Test.YthhonebaoidfgaaGreatDoorRdR
set_option linter.unusedSimpArgs false
/-
 A part.
-/
section
namespace Go.Av.L
open IntKind (i64 u64)
open Go.Av Go.Lib
set_option linter.unusedVariables false
set_option linter.unusedSimpArgs false
set_option maxRecDepth 10000
theorem fj(s:List UInt8)(c:UInt8):BX s (c.toNat:Int)=some (idxOf s c):=by
 unfold BX Cp HQ;have:=c.toNat_lt;rw[zl om,zS,UInt8.ofNat_toNat];rfl
theorem bo{k:Nat}(h:k<10):decDigits k=[UInt8.ofNat (48+k)]:=by rw[decDigits,dif_pos h]
theorem fO:∀k:Fin 100,HA ((k.val:Nat):Int)=some (if k.val<10 then[UInt8.ofNat (48+k.val)]else[UInt8.ofNat (48+k.val / 10),UInt8.ofNat (48+k.val%10)]):=by decide+kernel
theorem Zt{u:Nat}(h:u<100):HA (u:Int)=some (decDigits u):=by
 rw[fO ⟨u,h⟩];dsimp only;split
 ·rename_i h1;rw[bo h1]
 ·rename_i h1;rw[Lib.decDigits_two h1 h]
theorem ai(x:List UInt8){u:Nat}(hu:u<1000000000000)(K:x.length<=100000000000):De x (u:Int) 10=some (x++decDigits u):=by
 have hd:=Qk hu;have hw:u64.wrap (u:Int)=(u:Int):=by rw[IntKind.wrap_u64];omega
 unfold De EH;rw[zm om,AV,hw,za];dsimp only;unfold ER;rw[show((10:Int)==10)=true from rfl,Ah];by_cases h:u<100
 ·rw[zg om,Ah,Ek om om,Zt h,za,JH om om,BR];rfl
 ·have M:(decDigits u).length=Lib.nDigits u:=Lib.decDigits_length u;have hn:Z0 24 ((Lib.nDigits u:Nat):Int)=some (Lib.nDigits u):=by unfold Z0;rw[zl om,zS]
  have hp:=Lib.nDigits_pos u;have hf:UP (Lib.nDigits u) (u:Int)=true:=by
   unfold UP;refine zg ⟨by omega,by omega,by omega,by omega,?_⟩;rw[zS];exact Lib.lt_pow_nDigits u
  rw[zm om,AV,zg om,BR,zS,hn,za,hf,y8,zg (by rw[zW];omega),BR,za,show Ln (Lib.nDigits u) u=decDigits u from(Lib.decDigits_eq u).symm,zg (by rw[zi];omega),BR,<-M,xb,JH om om,BR];rfl
theorem QD{a b:Nat}(h:a<=b):(decDigits a).length<=(decDigits b).length:=by
 rw[Lib.decDigits_length,Lib.decDigits_length];have h1:=Lib.lt_pow_nDigits b;have h2:=Lib.nDigits_pos b;have:=JV (Lib.nDigits b) a h2 om;rwa [Lib.decDigits_length]at this
theorem eW{p:Pr}:bare p+(decDigits (Ra p)).length<=Ra p+1/\Ra p<=bare p+(decDigits (Ra p)).length:=by
 have h1:Ra p=bare p+(decDigits (bare p+(decDigits (bare p)).length)).length:=rfl;have h2:=QD (a:=bare p) (b:=bare p+(decDigits (bare p)).length) om;have G:=QD (a:=bare p+(decDigits (bare p)).length) (b:=Ra p) om;have J:∀u,(decDigits (u+1)).length<=(decDigits u).length+1:=λu=>by
  have h5:=Lib.lt_pow_nDigits u;have:=JV (Lib.nDigits u+1) (u+1) om (by rw[yT];omega);rw[Lib.decDigits_length u];exact this
 have h5:(decDigits (bare p+(decDigits (bare p)).length)).length<=(decDigits (bare p)).length+1:=by
  have h6:=Lib.lt_pow_nDigits (bare p);have h7:(decDigits (bare p)).length=Lib.nDigits (bare p):=Lib.decDigits_length _;have h8:Lib.nDigits (bare p)<=10^Lib.nDigits (bare p):=Nat.le_of_lt (Nat.lt_pow_self om);have:=JV (Lib.nDigits (bare p)+1) (bare p+(decDigits (bare p)).length) om (by rw[yT,h7];omega);omega
 have h6:(decDigits (Ra p)).length<=(decDigits (bare p+(decDigits (bare p)).length)).length+1:=by
  by_cases h:Ra p<=bare p+(decDigits (bare p)).length
  ·have:=QD h;omega
  ·have e:Ra p=bare p+(decDigits (bare p)).length+1:=by omega
   rw[e];exact J _
 omega
theorem fc(p:Pr):∃b,Hc p=some b:=by
 unfold Hc;rw[show(61:Int)=((61:UInt8).toNat:Int) from rfl,fj];cases(p.Key==([]:List UInt8))<;>exact⟨_,rfl⟩
theorem UY{l:List Pr}(hm:Sm l):W (Ge l) λr=>r.2=0->l.length<=256/\I5 l<=r.1.length:=by
 unfold Ge;refine Ce (λ_=>Ae λh=>absurd h (by decide)) λM=>Aq ?_;have hl':l.length<=256:=by omega
 refine(W.loop (Q:=λr:Int⊕(List UInt8×Int)=>match r with| .inl x=>True| .inr x=>x.2=2) (λt:Int×Int=>(0<=t.1/\t.1<=65537)/\0<=t.2/\t.2<=l.length) (λt=>(l.length - t.2).toNat) ⟨⟨by show(0:Int)<=0;omega,by show(0:Int)<=_;omega⟩,by show(0:Int)<=0;omega,by show(0:Int)<=_;omega⟩ ?_).mono ?_
 ·rintro⟨x1,x2⟩ ⟨⟨h1,h2⟩,G,J⟩;simp only at h1 h2 G J;unfold Iv;refine Ce (λh=>?_) λh=>Ae trivial;obtain⟨i,rfl⟩:∃i:Nat,x2=(i:Int):=⟨x2.toNat,by omega⟩;have D:i<l.length:=by omega
  obtain⟨b,I⟩:=fc l[i];have F:=hm _ (zP D);have H:=XO (p:=l[i]) om;refine Aq (CJ (Fe D) (Aq (CJ I (Bc (λ_=>Ae rfl) λ_=>Aq (CJ (S1 _ om) (Ae ?_))))));have nx:((0<=mn (i64.wrap (x1+(Ra l[i]:Int))) (65537:Int)/\mn (i64.wrap (x1+(Ra l[i]:Int))) (65537:Int)<=65537)/\0<=i64.wrap ((i:Int)+1)/\i64.wrap ((i:Int)+1)<=(l.length:Int))/\((l.length:Int) - i64.wrap ((i:Int)+1)).toNat<((l.length:Int) - (i:Int)).toNat:=by
   rw[Ek (x:=x1+_) om om,Ek om om];unfold mn;split<;>omega
  exact nx
 ·rintro(x3|⟨x4,x5⟩) hq
  ·refine Ce (λ_=>Ae λh=>absurd h (by decide)) λ_=>Aq ?_;refine(W.loop (Q:=λr:List UInt8=>I5 l<=r.length) (λt:List UInt8×Int=>∃i:Nat,t.2=(i:Int)/\i<=l.length/\I5 (l.take i)<=t.1.length/\t.1.length<=1000100*i) (λt=>(l.length - t.2).toNat) ⟨0,rfl,yf _,by simp[I5],by simp⟩ ?_).mono λr H=>Ae λ_=>⟨hl',H⟩;rintro⟨x9,x10⟩ ⟨i,rfl,h1,h2,G⟩;simp only at h2 G;unfold Iw;refine Ce (λh=>?_) λh=>Ae (by show I5 l<=x9.length;rw[zB om]at h2;exact h2);have D:i<l.length:=by omega
   have F:=hm _ (zP D);have H:=XO (p:=l[i]) om;have hd:=eW (p:=l[i]);have e:I5 (l.take (i+1))=I5 (l.take i)+Ra l[i]:=by rw[qv D,N5]
   have hbare:bare l[i]=l[i].Key.length+l[i].Value.length+3:=rfl;refine Aq (CJ (Fe D) (Aq (CJ (S1 _ om) (Aq (CJ (ai x9 (u:=Ra l[i]) om om) ?_)))));generalize l[i]=p at *;refine E5 (zg (by simp;omega)) (E5 (zg (by simp;omega)) (E5 (zg (by simp;omega)) (E5 (zg (by simp;omega)) (E5 (JH (by simp;omega) (by simp;omega)) (Ae ?_)))));have hlen:((x9++decDigits (Ra p))++((((([32]:List UInt8)++p.Key)++([61]:List UInt8))++p.Value)++([10]:List UInt8))).length=x9.length+(decDigits (Ra p)).length+(p.Key.length+p.Value.length+3):=by simp;omega
   have ew:i64.wrap ((i:Int)+1)=((i+1:Nat):Int):=by rw[Ek om om];omega
   rw[ew];refine⟨⟨i+1,rfl,by omega,?_,?_⟩,?_⟩
   ·show I5 (l.take (i+1))<=(_:List UInt8).length;rw[e,hlen];omega
   ·show(_:List UInt8).length<=_;rw[hlen];omega
   ·show((l.length:Int) - ((i+1:Nat):Int)).toNat<((l.length:Int) - (i:Int)).toNat;omega
  ·refine Ae λh=>?_;exact absurd (h.symm.trans hq) (by decide)
end Go.Av.L
end
/-
 A part.
-/
section
namespace Go.Av.L
open IntKind (i64 u64)
open Go.Av Go.Lib
set_option linter.unusedVariables false
set_option linter.unusedSimpArgs false
def Kg(s:List UInt8):Int×Int:=if s.length=0\/s.length>16 then(0,2)else if s.all PE=true then(if I7 s>9007199254740991 then(0,6)else((I7 s:Int),0))else(0,2)
theorem dT{s:List UInt8}(F:s.length<=16):Av.loop (Cj s) ((0:Int),(0:Int))=some (if s.all PE=true then .inl (I7 s:Int)else .inr 2):=by
 refine W.eq (W.list (l:=s) (λ(v:Nat) (i:Nat)=>((v:Int),(i:Int))) (λv i=>v=I7 (s.take i)/\(s.take i).all PE=true) ?_ ?_ 0 ⟨rfl,rfl⟩)
 ·rintro v ⟨C,B⟩;unfold Cj;refine Ce (λh=>by omega) λ_=>Ae ?_;rw[yr]at C B;rw[zl B,C]
 ·rintro v i hi ⟨C,B⟩;unfold Cj;refine Ce (λ_=>?_) λh=>by omega
  try simp only[]
  rw[MX hi];simp only[za];rw[Y1,za,js];cases hd:PE s[i]with
  |false=>
   rw[yE,Ah];refine Ae ?_;rw[zj (by rw[YR hi hd];decide)]
  | true=>
   rw[yg,AV];have I:=aV hd;have E:=bD B (by rw[zA];omega);rw[<-C]at E;refine Ae ⟨XA v s[i],?_,?_,R3 hi B hd⟩
   ·rw[IK om,Ek (x:=(10:Int)*(v:Int)) om om,kX om om,Ek (x:=(s[i].toNat:Int) - 48) om om,Ek om om];unfold XA;refine Prod.ext ?_ rfl;show(10:Int)*v+(s[i].toNat - 48)=((10*v+(s[i].toNat - 48):Nat):Int);omega
   ·rw[KI (List.getElem?_eq_getElem hi),OH,<-C];rfl
def WN{α:Type}(s:List UInt8)(m:α)(f:Int->α):Int×α:=if(Kg s).2=0 then(0,f (Kg s).1)else((Kg s).2,m)
theorem VS{α:Type}(s:List UInt8)(m:α)(f:Int->α):
  Ag (((s.length:Int)==0)||(decide ((s.length:Int)>16))) (some ((2:Int),m)) ((Av.loop (Cj s) ((0:Int),(0:Int))).bind λo1=>(match o1 with| .inl x3=>Ag (decide (x3>9007199254740991)) (some ((6:Int),m)) (some ((0:Int),f x3))| .inr x4=>some (x4,m)))=some (WN s m f):=by
 unfold WN Kg;by_cases h:s.length=0\/s.length>16
 ·rw[zl h,show(((s.length:Int)==0)||decide ((s.length:Int)>16))=true from by rw[yp,yN,zy];omega,Ah];rfl
 ·rw[zj h,show(((s.length:Int)==0)||decide ((s.length:Int)>16))=false from by rw[zM,yu,zD];omega,AV,dT om,za];by_cases B:s.all PE=true
  ·rw[zl B,zl B];simp only[];by_cases C:I7 s>9007199254740991
   ·rw[zl C,zg om,Ah];rfl
   ·rw[zj C,zm om,AV];rfl
  ·rw[zj B,zj B];rfl
theorem k9(s:List UInt8)(m:AM):FI s m=some (WN s m λv=>⟨m.Name,m.BG,m.Kind,m.Mode,m.Cq,v,m.A6,m.A7,m.BY,m.Bi,m.Time,m.Extra,m.Data⟩):=VS s m _
theorem lq(s:List UInt8)(m:AM):E9 s m=some (WN s m λv=>⟨m.Name,m.BG,m.Kind,m.Mode,v,m.Cy,m.A6,m.A7,m.BY,m.Bi,m.Time,m.Extra,m.Data⟩):=VS s m _
theorem lp(s:List UInt8)(n:Int):Fw s n=some (WN s n λv=>v):=VS s n _
def RJ(s:List UInt8):Bool:=s.contains 0
theorem Xx(s:List UInt8):∃n,BX s (0:Int)=some n/\decide (n>=0)=RJ s:=by
 unfold BX Cp HQ;rw[zl (by decide)];refine⟨_,rfl,?_⟩;have:=QS s (UInt8.ofNat (0:Int).toNat);unfold RJ;by_cases h:(0:UInt8)∈s
 ·rw[show s.contains 0=true from by rw[xN];exact h];exact zg (this.2 h)
 ·rw[show s.contains 0=false from by
   cases e:s.contains 0 with
   |false=>rfl
   |true=>exact absurd (xN.1 e) h]
  exact zm λe=>h (this.1 e)
def TO{α:Type}(s:List UInt8)(m m':α):Int×α:=if RJ s=true then(2,m)else(0,m')
theorem OC{α:Type}(s:List UInt8)(m m':α):((BX s (0:Int)).bind λx1=>Ag (decide (x1>=0)) (some ((2:Int),m)) (some ((0:Int),m')))=some (TO s m m'):=by
 obtain⟨n,e,h⟩:=Xx s;rw[e,za,h];unfold TO;cases RJ s<;>rfl
theorem iJ(s:List UInt8)(m:AM):FX s m=some (TO s m ⟨m.Name,m.BG,m.Kind,m.Mode,m.Cq,m.Cy,m.A6,s,m.BY,m.Bi,m.Time,m.Extra,m.Data⟩):=OC s m _
theorem iW(s:List UInt8)(m:AM):Fc s m=some (TO s m ⟨m.Name,m.BG,m.Kind,m.Mode,m.Cq,m.Cy,s,m.A7,m.BY,m.Bi,m.Time,m.Extra,m.Data⟩):=OC s m _
theorem iR(s:List UInt8)(m:AM):Fy s m=some (TO s m ⟨s,m.BG,m.Kind,m.Mode,m.Cq,m.Cy,m.A6,m.A7,m.BY,m.Bi,m.Time,m.Extra,m.Data⟩):=OC s m _
theorem iv(s:List UInt8)(m:AM):FZ s m=some (TO s m ⟨m.Name,s,m.Kind,m.Mode,m.Cq,m.Cy,m.A6,m.A7,m.BY,m.Bi,m.Time,m.Extra,m.Data⟩):=OC s m _
def To:List UInt8->List UInt8×Bool
 |[]=>([],false)
 |c::t=>if c=45 then(t,true)else(c::t,false)
theorem Yw(s:List UInt8):FN s ([45]:List UInt8)=some (To s):=by
 unfold FN FF FA;cases s with
 |nil=>rfl
 | cons c t=>
  have e1:E4 (c::t) none (some ((([45]:List UInt8).length:Nat):Int))=some [c]:=Hp (s:=c::t) (i:=1) (by simp);have e2:E4 (c::t) (some ((([45]:List UInt8).length:Nat):Int)) none=some t:=LH (s:=c::t) (i:=1) (by simp);rw[zg (show(((c::t).length:Nat):Int)>=(([45]:List UInt8).length:Int) by simp only[zG,zY];omega),Ah,e1,e2];simp only[za];have hm:To (c::t)=if c=45 then(t,true)else(c::t,false):=rfl
  rw[hm];by_cases h:c=45
  ·subst h;rfl
  ·rw[zj h,show(([c]:List UInt8)==[45])=false from by rw[yu];intro e;exact h (by injection e)];rfl
theorem jh{a r:List UInt8}(h:(46:UInt8)∉a):Lib.cut (a++46::r) [46]=(a,r,true):=by
 have hi:Lib.index (a++46::r) [46]=(a.length:Int):=by
  refine Lib.index_first (by simp) ?_ λj N=>?_
  ·unfold Lib.occAt;simp[List.isPrefixOf]
  ·unfold Lib.occAt;rw[y9 om,zT N];have:(46:UInt8)≠a[j]:=λe=>h (by rw[e];exact zP N);rw[yL];simp[List.isPrefixOf,this]
 unfold Lib.cut;rw[hi,zl om];simp
theorem index_none:∀{s:List UInt8},(46:UInt8)∉s->Lib.index s [46]= -1
 |[],_=>rfl
 |b::s,h=>by
  have h1:(46:UInt8)≠b:=λe=>h (by rw[e];exact .head _);have ih:=index_none (s:=s) λe=>h (.tail _ e);unfold Lib.index;rw[ih];simp[List.isPrefixOf,h1]
theorem lg{s:List UInt8}(h:(46:UInt8)∉s):Lib.cut s [46]=(s,[],false):=by
 unfold Lib.cut;rw[index_none h,zj (by decide)]
def Nk(s:List UInt8)(most:Nat):Int×Bool:=if s.length=0\/s.length>most then(0,false)else if s.all PE=true then((I7 (s.take 16):Int),true)else(0,false)
theorem Zz{s:List UInt8}(F:s.length<=1000):Av.loop (GD s) ((0:Int),(0:Int))=some (if s.all PE=true then .inl (I7 (s.take 16):Int)else .inr ((0:Int),false)):=by
 refine W.eq (W.list (l:=s) (λ(v:Nat) (i:Nat)=>((v:Int),(i:Int))) (λv i=>v=I7 ((s.take i).take 16)/\(s.take i).all PE=true) ?_ ?_ 0 ⟨rfl,rfl⟩)
 ·rintro v ⟨C,B⟩;unfold GD;refine Ce (λh=>by omega) λ_=>Ae ?_;rw[yr]at C B;rw[zl B,C]
 ·rintro v i hi ⟨C,B⟩;unfold GD;refine Ce (λ_=>?_) λh=>by omega
  try simp only[]
  rw[MX hi];simp only[za];rw[Y1,za,js];cases hd:PE s[i]with
  |false=>
   rw[yE,Ah,za];refine Ae ?_;rw[zj (by rw[YR hi hd];decide)]
  | true=>
   rw[yg,AV];have I:=aV hd;have ha16:((s.take i).take 16).all PE=true:=by
    rw[zr]at B⊢;exact λx K=>B x (qi K)
   by_cases h16:i<16
   ·have htt:(s.take i).take 16=s.take i:=zB (by rw[zA];omega);rw[htt]at C;have E:=bD B (by rw[zA];omega);rw[<-C]at E;rw[zg om,Ah,za];refine Ae ⟨XA v s[i],?_,?_,R3 hi B hd⟩
    ·rw[IK om,Ek (x:=(10:Int)*(v:Int)) om om,kX om om,Ek (x:=(s[i].toNat:Int) - 48) om om,Ek om om];unfold XA;refine Prod.ext ?_ rfl;show(10:Int)*v+(s[i].toNat - 48)=((10*v+(s[i].toNat - 48):Nat):Int);omega
    ·rw[zB (l:=s.take (i+1)) (by rw[zA];omega),KI (List.getElem?_eq_getElem hi),OH,<-C];rfl
   ·rw[zm om,AV,za];refine Ae ⟨v,by rw[IK om],?_,R3 hi B hd⟩;rw[C,xA,xA];congr 1;rw[qC om,qC om]
theorem P2(s:List UInt8)(most:Nat)(F:s.length<=1000):EC s (most:Int)=some (Nk s most):=by
 unfold EC Nk;by_cases h:s.length=0\/s.length>most
 ·rw[zl h,show(((s.length:Int)==0)||decide ((s.length:Int)>(most:Int)))=true from by rw[yp,yN,zy];omega,Ah]
 ·rw[zj h,show(((s.length:Int)==0)||decide ((s.length:Int)>(most:Int)))=false from by rw[zM,yu,zD];omega,AV,Zz F,za];by_cases B:s.all PE=true
  ·rw[zl B,zl B]
  ·rw[zj B,zj B]
end Go.Av.L
end
