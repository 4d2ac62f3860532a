/-
  Several texts in one.
-/
import Derived.Test.YthhonebaoidfgaaGreatDoorRdV
set_option linter.unusedSimpArgs false
/-
 A part.
-/
section
namespace Go.Av.L
open IntKind (i64)
open Go.Av Go.Lib
set_option linter.unusedVariables false
set_option linter.unusedSimpArgs false
set_option maxRecDepth 10000
theorem bn{k:Nat}(h:k<10):E4 ([48,49,50,51,52,53,54,55,56,57]:List UInt8) (some ((k:Nat):Int)) (some (((k+1:Nat)):Int))=some [UInt8.ofNat (48+k)]:=by
 have:k=0\/k=1\/k=2\/k=3\/k=4\/k=5\/k=6\/k=7\/k=8\/k=9:=by omega
 rcases this with rfl|rfl|rfl|rfl|rfl|rfl|rfl|rfl|rfl|rfl<;>rfl
theorem im(v:Nat):Int.tdiv (v:Int) 10=((v / 10:Nat):Int):=by rw[qH om];omega
theorem iM(v:Nat):Int.tmod (v:Int) 10=((v%10:Nat):Int):=by rw[ql om];omega
theorem Vg:∀(n F u:Nat),u<10^(n+1)->n<F->n<=30->u<=900719925474099100->(D2 F).CO (u:Int)=some (decDigits u)
 |n,0,u,_,h,_,_=>by omega
 | n,F+1,u,hu,hF,h30,R=>by
  show ES (D2 F) (u:Int)=_;unfold ES;rw[decDigits];by_cases h:u<10
  ·rw[zg om,Ah,IK om,bn h,za,dif_pos h]
  ·rw[zm om,AV,im,iM,Ek om om,dif_neg h];cases n with
   |zero=>rw[yz,Nat.pow_one]at hu;omega
   |succ n=>
    rw[Vg n F (u / 10) (by rw[yT]at hu;omega) om om om,za,IK om,bn om,za];have:=JV (n+1) (u / 10) om (by rw[yT]at hu;omega);rw[zg (by simp;omega),BR]
theorem fm{n:Int}(h:0<=n)(h2:n<=900719925474099100):CO n=some (decDigits n.toNat):=by
 have:=Vg 17 dY n.toNat (by rw[show 10^(17+1)=1000000000000000000 from rfl];omega) (by rw[fD];omega) om om;rw[yJ h]at this;exact this
theorem gY(u:Nat)(h2:u<=900719925474099100):CO (u:Int)=some (decDigits u):=by
 have:=fm (n:=(u:Int)) om om;rwa [zS]at this
theorem Zw(p:Pr)(h:bare p<=100000000000):W (FV p) λn=>0<=n/\n<=200000000000:=by
 have S:(p.Key.length:Int)+(p.Value.length:Int)=((p.Key.length+p.Value.length:Nat):Int):=by omega
 have R:((p.Key.length+p.Value.length:Nat):Int)+3=(bare p:Int):=by unfold bare;omega
 have I:p.Key.length+p.Value.length<=100000000000:=by unfold bare at h;omega
 unfold FV;rw[S,Ek (x:=((p.Key.length+p.Value.length:Nat):Int)) om om,R,Ek (x:=(bare p:Int)) om om,Ek (x:=(bare p:Int)+1) om om];refine Aq ((W.loop (Q:=λr:Unit⊕Int=>match r with| .inl _=>True| .inr n=>0<=n/\n<=200000000000) (λt:Int=>0<=t/\t<=(bare p:Int)+21) (λt=>((bare p:Int)+21 - t).toNat) ⟨by omega,by omega⟩ ?_).mono ?_)
 ·intro t ⟨h1,h2⟩;obtain⟨u,rfl⟩:∃u:Nat,t=(u:Int):=⟨t.toNat,by omega⟩;unfold G5;rw[S,Ek (x:=((p.Key.length+p.Value.length:Nat):Int)) om om,R,Ek (x:=(bare p:Int)) om om,Ek (x:=(bare p:Int)+20) om om];refine Ce (λhc=>Aq (CJ (gY u om) (Bc (λ_=>Ae ⟨by omega,by omega⟩) λ_=>Ae ?_))) λ_=>Ae trivial;have nx:(0<=i64.wrap ((u:Int)+1)/\i64.wrap ((u:Int)+1)<=(bare p:Int)+21)/\((bare p:Int)+21 - i64.wrap ((u:Int)+1)).toNat<((bare p:Int)+21 - (u:Int)).toNat:=by
   rw[Ek om om];omega
  exact nx
 ·rintro(_|n) K
  ·exact Ae ⟨by omega,by omega⟩
  ·exact Ae K
theorem Xt(p:Pr)(h:bare p<=100000000000):∃b,Du p=some b:=by
 have key:W (Du p) λ_=>True:=by
  unfold Du;have hk:p.Key.length<=100000000000:=by unfold bare at h;omega
  refine Aq ((W.loop (Q:=λ_=>True) (λt:Int=>0<=t/\t<=p.Key.length) (λt=>(p.Key.length - t).toNat) ⟨by omega,by omega⟩ ?_).mono λr _=>?_)
  ·intro t ⟨h1,h2⟩;unfold Gc;refine Ce (λh=>?_) λh=>Ae trivial;obtain⟨u,hu⟩:=Ju h1 h;have nx:(0<=i64.wrap (t+1)/\i64.wrap (t+1)<=(p.Key.length:Int))/\((p.Key.length:Int) - i64.wrap (t+1)).toNat<((p.Key.length:Int) - t).toNat:=by
    rw[Ek om om];omega
   exact Aq (CJ hu (Bc (λ_=>Ae trivial) λ_=>Ae nx))
  ·rcases r with _|b<;>exact Ae trivial
 obtain⟨b,h,_⟩:=key;exact⟨b,h⟩
theorem YD{l:List Pr}(hm:∀p∈l,bare p<=2200000):W (Ew l) λr=>r.1.length<=65536:=by
 unfold Ew;refine Ce (λ_=>Ae (by simp)) λI=>Aq ?_;refine(W.loop (Q:=λr:Unit⊕(List UInt8×Int)=>match r with| .inl _=>True| .inr x=>x.1=[]) (λt:Int=>0<=t/\t<=l.length) (λt=>(l.length - t).toNat) ⟨by omega,by omega⟩ ?_).mono ?_
 ·intro t ⟨h1,h2⟩;unfold Gf;refine Ce (λh=>?_) λh=>Ae trivial;obtain⟨i,rfl⟩:∃i:Nat,t=(i:Int):=⟨t.toNat,by omega⟩;have G:i<l.length:=by omega
  obtain⟨b,R⟩:=Xt l[i] (by have:=hm _ (zP G);omega);have nx:(0<=i64.wrap ((i:Int)+1)/\i64.wrap ((i:Int)+1)<=(l.length:Int))/\((l.length:Int) - i64.wrap ((i:Int)+1)).toNat<((l.length:Int) - (i:Int)).toNat:=by
   rw[Ek om om];omega
  exact Aq (CJ (Fe G) (Aq (CJ R (Bc (λ_=>Ae rfl) λ_=>Ae nx))))
 ·rintro(_|⟨x,e⟩) K
  ·refine Aq ?_;refine(W.loop (Q:=λr:List UInt8⊕(List UInt8×Int)=>match r with| .inl x=>x.length<=65536| .inr x=>x.1=[]) (λt:List UInt8×Int=>t.1.length<=65536/\0<=t.2/\t.2<=l.length) (λt=>(l.length - t.2).toNat) ⟨by simp,by show(0:Int)<=0;omega,by show(0:Int)<=_;omega⟩ ?_).mono ?_
   ·rintro⟨x6,t⟩ ⟨h0,h1,h2⟩;simp only at h0 h1 h2;unfold Gh;refine Ce (λh=>?_) λh=>Ae h0;obtain⟨i,rfl⟩:∃i:Nat,t=(i:Int):=⟨t.toNat,by omega⟩;have G:i<l.length:=by omega
    have R:=hm _ (zP G);have hbare:bare l[i]=l[i].Key.length+l[i].Value.length+3:=rfl;refine Aq (CJ (Fe G) (Aq (CJ (Fe G) (Aq (CJ (Fe G) (Aq ((Zw l[i] om).mono ?_)))))));rintro n ⟨n1,n2⟩;obtain⟨u,rfl⟩:∃u:Nat,n=(u:Int):=⟨n.toNat,by omega⟩;have hd:=Qk (u:=u) om;refine Aq (CJ (gY u om) ?_);generalize l[i]=p at *;refine E5 (zg (by simp;omega)) (E5 (zg (by simp;omega)) (E5 (zg (by simp;omega)) (E5 (zg (by simp;omega)) (E5 (zg (by simp;omega)) (E5 (zg (by simp;omega)) (Ce (λ_=>Ae rfl) λhle=>Ae ⟨⟨?_,?_⟩,?_⟩))))))
    ·have K:=qT.1 hle;exact Int.ofNat_le.1 K
    ·show 0<=i64.wrap ((i:Int)+1)/\i64.wrap ((i:Int)+1)<=_;rw[Ek om om];omega
    ·show((l.length:Int) - i64.wrap ((i:Int)+1)).toNat<((l.length:Int) - (i:Int)).toNat;rw[Ek om om];omega
   ·rintro(x|⟨x,e⟩) K
    ·exact Ae K
    ·refine Ae ?_;show x.length<=_;rw[show x=[] from K];simp
  ·refine Ae ?_;show x.length<=_;rw[show x=[] from K];simp
end Go.Av.L
end
/-
 A part.
-/
section
namespace Go.Av.L
open IntKind (i64)
open Go.Av Go.Lib
set_option linter.unusedVariables false
set_option linter.unusedSimpArgs false
set_option maxRecDepth 10000
def gD(s:List UInt8)(r:List UInt8):Prop:=∃n,n<=s.length/\r=s.take n/\(∀j,j<n->s[j]?≠some 0)/\(n=s.length\/s[n]?=some 0)
theorem cL(s:List UInt8)(J:s.length<=2000000):W (CP s) (gD s):=by
 unfold CP;refine Aq (W.loop (λx:Int=>∃n:Nat,x=(n:Int)/\n<=s.length/\∀j,j<n->s[j]?≠some 0) (λx=>s.length - x.toNat) ⟨0,rfl,by omega,λj O=>by omega⟩ λx B=>?_);obtain⟨n,rfl,M,D⟩:=B;unfold Gz;dsimp only;rw[IB];have fin:(n=s.length\/s[n]?=some 0)->W (some (.inr (n:Int)):Option (Int⊕Int)) λr=>match r with
   | .inl s'=>(∃n:Nat,s'=(n:Int)/\n<=s.length/\∀j,j<n->s[j]?≠some 0)/\s.length - s'.toNat<s.length - (n:Int).toNat
   | .inr r=>W ((E4 s none (some r)).bind λx5=>some x5) (gD s):=λh=>by
  refine Ae ?_;dsimp only;rw[Hp M,za];exact Ae ⟨n,M,rfl,D,h⟩
 by_cases C:n<s.length
 ·rw[zl om,MX C,za,za,show(0:Int)=((0:Nat):Int) from rfl,show(((s[n].toNat:Nat):Int) !=((0:Nat):Int))= !(((s[n].toNat:Nat):Int)==((0:Nat):Int)) from rfl,Ri om];by_cases h0:s[n]=0
  ·rw[show(s[n]==UInt8.ofNat 0)=true from by rw[h0];rfl,yg,AV];exact(fin (.inr (by rw[List.getElem?_eq_getElem C,h0]))).mono λr h=>by cases r<;>exact h
  ·rw[show(s[n]==UInt8.ofNat 0)=false from beq_eq_false_iff_ne.2 h0,yE,Ah,IK om];refine Ae ⟨⟨n+1,rfl,by omega,λj O=>?_⟩,by simp only[zS];omega⟩;by_cases e:j=n
   ·subst e;rw[List.getElem?_eq_getElem C];exact λh=>h0 (zJ h)
   ·exact D j om
 ·rw[zj om,za,AV];exact(fin (.inl om)).mono λr h=>by cases r<;>exact h
theorem iT{s:List UInt8}(h:(0:UInt8)∉s)(j:Nat):s[j]?≠some 0:=λe=>h (zN e)
theorem Nv(s:List UInt8)(J:s.length<=2000000):∃r,CP s=some r/\(r==s)= !FM s:=by
 obtain⟨r,e,n,h1,h2,S,h4⟩:=cL s J;refine⟨r,e,?_⟩;cases D:FM s with
 | false=>
  have:n=s.length:=by
   rcases h4 with h|h
   ·exact h
   ·exact absurd h (iT (U1 D) n)
  rw[h2,this,yr];simp
 | true=>
  rw[yg,yu];intro e;have M:n=s.length:=by
   have:=congrArg List.length (h2.symm.trans e);rw[zA]at this;omega
  have:FM s=false:=(Rg s).2 λhm=>by
   obtain⟨j,O,hj2⟩:=yS hm;exact S j om (by rw[List.getElem?_eq_getElem O,hj2])
  rw[D]at this;cases this
theorem V3(s:List UInt8)(J:s.length<=2000000):W (EI s) (L7 s):=by
 unfold EI;refine Ce (λh=>Ae (.inl ⟨by omega,rfl⟩)) λh=>?_;refine Aq (W.loop (λx:Int×Int=>∃k:Nat,x.2=(k:Int)/\1<=k/\k<=s.length/\((x.1= -1/\∀j,j<k->¬Cut s j)\/∃i:Nat,x.1=(i:Int)/\Cut s i/\∀j,j<k->Cut s j->j<=i)) (λx=>s.length - x.2.toNat) ⟨1,rfl,by omega,by omega,.inl ⟨rfl,λj O c=>by have:=c.1;omega⟩⟩ λx B=>?_);obtain⟨a,b⟩:=x;obtain⟨k,hk,k1,k2,hc⟩:=B;dsimp only at hk hc;subst hk;unfold Gx;dsimp only;rw[IB];by_cases C:k<s.length
 ·rw [zl om,MX C,za,Ek (x:=(s.length:Int) - (k:Int)) om om,Ek om om,show(47:Int)=((47:Nat):Int) from rfl,Ri om];by_cases N:Cut s k
  ·obtain⟨c1,c2,c3,c4,c5⟩:=N;have e47:s[k]=47:=by rw[List.getElem?_eq_getElem C]at c3;exact zJ c3
   rw[show((s[k]==UInt8.ofNat 47&&decide ((k:Int)<=155))&&decide ((s.length:Int) - (k:Int) - 1>=1)&&decide ((s.length:Int) - (k:Int) - 1<=100))=true from by
    rw[zg om,zg om,zg om,e47];rfl,Ah,za,IK om]
   exact Ae ⟨⟨k+1,rfl,by omega,by omega,.inr ⟨k,rfl,⟨c1,c2,c3,c4,c5⟩,λj O _=>by omega⟩⟩,by simp only[zS];omega⟩
  ·rw[show((s[k]==UInt8.ofNat 47&&decide ((k:Int)<=155))&&decide ((s.length:Int) - (k:Int) - 1>=1)&&decide ((s.length:Int) - (k:Int) - 1<=100))=false from by
    rw[Bool.eq_false_iff];intro U;simp only[zf,yN,zy]at U
    exact N ⟨k1,by omega,by rw[List.getElem?_eq_getElem C,U.1.1.1];rfl,by omega,by omega⟩,AV,za,IK om]
   refine Ae ⟨⟨k+1,rfl,by omega,by omega,?_⟩,by simp only[zS];omega⟩;rcases hc with⟨h1,h2⟩|⟨i,h1,h2,S⟩
   ·exact .inl ⟨h1,λj O c=>by
     by_cases e:j=k
     ·exact N (e ▸ c)
     ·exact h2 j om c⟩
   ·exact .inr ⟨i,h1,h2,λj O c=>by
     by_cases e:j=k
     ·exact absurd (e ▸ c) N
     ·exact S j om c⟩
 ·rw[zj om];have hks:k=s.length:=by omega
  refine Ae ?_;dsimp only;rcases hc with⟨rfl,h2⟩|⟨i,rfl,c,S⟩
  ·rw[show decide ((-1:Int)<0)=true from rfl,Ah];exact Ae (.inr ⟨by omega,.inl ⟨rfl,λj c=>h2 j (by have:=c.2.2.2.1;omega) c⟩⟩)
  ·have c4:=c.2.2.2.1;rw[zm om,AV,Hp om,za,IK om,LH om];exact Ae (.inr ⟨by omega,.inr ⟨i,c,λj d=>S j (by have:=d.2.2.2.1;omega) d,rfl⟩⟩)
theorem W7{s:List UInt8}{n:Nat}(J:s.length<=n)(M:n<=1000):loop (E6 (n:Int)) s=some (pd s n):=by
 refine W.eq (W.loop (λx:List UInt8=>x.length<=n/\∃k,x=s++List.replicate k 0) (λx=>n - x.length) ⟨J,0,by simp⟩ λx B=>?_);obtain⟨h1,k,rfl⟩:=B;unfold E6;dsimp only;rw[IB];by_cases h:(s++List.replicate k (0:UInt8)).length<n
 ·rw[zl om,zg (by simp at h⊢;omega),BR];refine Ae ⟨⟨by rw[zi];simp at h⊢;omega,k+1,by rw[zC,<-qk]⟩,by rw[zi];simp at h⊢;omega⟩
 ·rw[zj om];refine Ae ?_;rw[zi,zW]at h h1;unfold pd;rw[List.drop_replicate,show n - s.length=k by omega]
theorem OF{s:List UInt8}{n:Nat}(J:s.length<=n)(M:n<=512)(D:FM s=false):Bq s (n:Int)=some (pd s n):=by
 obtain⟨r,e,he⟩:=Nv s om;unfold Bq GJ;rw[zm (show ¬(n:Int)<0 by omega),zm (show ¬(n:Int)>512 by omega),zm (show ¬(s.length:Int)>(n:Int) by omega),yY,yY,AV,e,za,he,D,yE,yg,za,AV,W7 J om];rfl
theorem O7:∀(i v:Nat),MA v (i+1)=UInt8.ofNat (48+v / 8^i%8)::MA v i
 |0,v=>by simp[MA]
 |i+1,v=>by
  have ih:=O7 i (v / 8);rw[MA,ih,qW,<-Nat.pow_succ'];rfl
theorem gU(n:Nat):E4 ([48,49,50,51,52,53,54,55]:List UInt8) (some ((n%8:Nat):Int)) (some (((n%8+1:Nat)):Int))=some [UInt8.ofNat (48+n%8)]:=by
 have h:n%8<8:=xx _ (by decide);generalize n%8=k at h;have:k=0\/k=1\/k=2\/k=3\/k=4\/k=5\/k=6\/k=7:=by omega
 rcases this with rfl|rfl|rfl|rfl|rfl|rfl|rfl|rfl<;>rfl
theorem gg(v:Nat):Int.tdiv (v:Int) 8=((v / 8:Nat):Int):=by rw[qH om];omega
theorem gJ(v:Nat):Int.tmod (v:Int) 8=((v%8:Nat):Int):=by rw[ql om];omega
theorem jg{q:Nat}(h:q<=9007199254740991):i64.wrap ((q / 8:Nat):Int)=((q / 8:Nat):Int):=Ek om om
theorem Tx{v n:Nat}(M:1<=n)(hn2:n<=12)(hv:v<=9007199254740991):loop (Ca (n:Int)) ((v:Int),([0]:List UInt8),(1:Int))=some (Hq v n):=by
 have key:∀(k i:Nat),i+k=n - 1->loop (Ca (n:Int)) (((v / 8^i:Nat):Int),MA v i++[0],((i+1:Nat):Int))=some (Hq v n):=by
  intro k
  induction k with
  |zero=>
   intro i hi;refine Cl ?_;unfold Ca;dsimp only;rw[zm om,AV];unfold Hq;rw[show n - 1=i by omega]
  |succ k ih=>
   intro i hi;have hle:v / 8^i<=v:=Nat.div_le_self _ _;have hlen:(MA v i).length=i:=Jg i v;refine(Cm (s':=(((v / 8^(i+1):Nat):Int),MA v (i+1)++[0],((i+1+1:Nat):Int))) ?_).trans (ih (i+1) om);unfold Ca;dsimp only;rw[zg om,Ah,gJ,IK om,gU,za,zg (by simp[hlen];omega),BR,gg,jg (z8 hle om),IK om,O7,qW,<-yT];rfl
 have:=key (n - 1) 0 om;rw[Nat.pow_zero,Nat.div_one]at this;exact this
theorem PT{v:Int}(h:0<=v/\v<2097152):B2 v 8=some (Hq v.toNat 8):=by
 unfold B2 Er;rw[show((decide ((8:Int)<2)||decide ((8:Int)>12))||decide (v<0))=false from by rw[zm (show ¬v<0 by omega)];rfl,AV,show Ez 8 (i64.wrap ((8:Int) - 1))=some 2097152 from by kernel_rfl,za,zm om,za,AV];have:=Tx (v:=v.toNat) (n:=8) om om om;rw[yJ h.1]at this;rw[show loop (Ca 8) (v,([0]:List UInt8),(1:Int))=_ from this];rfl
theorem Wt{v:Int}(h:0<=v/\v<8589934592):B2 v 12=some (Hq v.toNat 12):=by
 unfold B2 Er;rw[show((decide ((12:Int)<2)||decide ((12:Int)>12))||decide (v<0))=false from by rw[zm (show ¬v<0 by omega)];rfl,AV,show Ez 8 (i64.wrap ((12:Int) - 1))=some 8589934592 from by kernel_rfl,za,zm om,za,AV];have:=Tx (v:=v.toNat) (n:=12) om om om;rw[yJ h.1]at this;rw[show loop (Ca 12) (v,([0]:List UInt8),(1:Int))=_ from this];rfl
theorem fR{A m Z:List UInt8}(hA:A.length=148)(hm:m.length=8)(hZ:Z.length=356):Fo (A++(m++Z)) false=some (Sd A Z:Int):=by
 unfold Fo;have I:(A++(m++Z)).length=512:=by simp only[zi];omega
 refine W.eq (Aq (W.list (l:=A++(m++Z)) (λ(s:Int) (i:Nat)=>(s,(i:Int))) (λs i=>s=(S4 A Z i:Int)) ?_ ?_ (0:Int) (by simp[S4,Ms])))
 ·intro s J;rw[I]at J⊢;unfold Fv;dsimp only;rw[IB,zj om];refine Ae (Ae ?_);rw[J];unfold S4 Sd;rw[zj om,zj om,zB om]
 ·intro s i hi J;rw[I]at hi;have hi2:i<(A++(m++Z)).length:=by omega
  unfold Fv;dsimp only;rw[IB,zl om];have hbd:=MQ A;have hbz:=MQ Z;have hbyte:=((A++(m++Z))[i]).toNat_lt;have hps:S4 A Z i<=200000:=by
   unfold S4;split
   ·have:=MQ (A.take i);rw[zA]at this;omega
   ·split
    ·omega
    ·have:=MQ (Z.take (i - 156));rw[zA]at this;omega
  by_cases X:148<=i/\i<156
  ·rw[show(decide ((i:Int)>=148)&&decide ((i:Int)<=155))=true from by rw[zf,zy,zy];omega,Ah,za];refine Ae ⟨i64.wrap (s+32),by rw[IK om],?_⟩;rw[J,Ek om om];have e:S4 A Z (i+1)=S4 A Z i+32:=by
    unfold S4;by_cases h0:i=148
    ·subst h0;rw[zj om,zl om,zl om,zB om]
    ·rw[zj om,zl om,zj om,zl om];omega
   rw[e];omega
  ·rw [show(decide ((i:Int)>=148)&&decide ((i:Int)<=155))=false from by rw[yv,zD,zD];omega,AV,AV,za,AV,MX hi2,za,za];refine Ae ⟨i64.wrap (s+i64.wrap ((A++(m++Z))[i].toNat:Int)),by rw[IK om],?_⟩;rw[J,Ek (x:=(((A++(m++Z))[i].toNat:Nat):Int)) om om,Ek om om];have e:S4 A Z (i+1)=S4 A Z i+(A++(m++Z))[i].toNat:=by
    unfold S4;by_cases h0:i<148
    ·rw[zl om,zl om,Tn om,List.getElem_append_left om]
    ·have S:i>=156:=by omega
     have e2:(A++(m++Z))[i]=Z[i - 156]'om:=by
      rw[xE om,xE om];congr 1;omega
     rw[e2,zj om,zj om,zj om,show i+1 - 156=(i - 156)+1 by omega,Tn om];by_cases h4:i=156
     ·subst h4;rw[zl om];simp[Ms]
     ·rw[zj om];omega
   rw[e];omega
theorem Xh{v:Nat}(hv:v<262144):loop DQ ((v:Int),([]:List UInt8),(0:Int))=some (MA v 6):=by
 have key:∀(k i:Nat),i+k=6->loop DQ (((v / 8^i:Nat):Int),MA v i,(i:Int))=some (MA v 6):=by
  intro k
  induction k with
  |zero=>
   intro i hi;obtain rfl:i=6:=by omega
   refine Cl ?_;unfold DQ;dsimp only;rw[zm om,AV]
  |succ k ih=>
   intro i hi;have hle:v / 8^i<=v:=Nat.div_le_self _ _;have hlen:(MA v i).length=i:=Jg i v;refine(Cm (s':=(((v / 8^(i+1):Nat):Int),MA v (i+1),((i+1:Nat):Int))) ?_).trans (ih (i+1) om);unfold DQ;dsimp only;rw[zg om,Ah,gJ,IK om,gU,za,zg (by simp[hlen];omega),BR,gg,jg (z8 hle om),IK om,O7,qW,<-yT];rfl
 have:=key 6 0 om;rw[Nat.pow_zero,Nat.div_one]at this;exact this
theorem cZ{A m Z:List UInt8}(hA:A.length=148)(hm:m.length=8)(hZ:Z.length=356):FL (A++(m++Z))=some (A++((Hq (Sd A Z) 7++[32])++Z)):=by
 have J:=cG hA hZ;have I:(A++(m++Z)).length=512:=by simp only[zi];omega
 have ho:(MA (Sd A Z) 6).length=6:=Jg _ _;have hd:(A++(m++Z)).drop 156=Z:=by rw[<-zC];exact List.drop_left' (by rw[zi];omega)
 unfold FL
 rw[fR hA hm hZ,za,Xh J,za,show(148:Int)=((148:Nat):Int) from rfl,Hp om,za,List.take_left' hA,zg om,BR,zg (by simp only[zi,zG,zY];omega),BR,
  show(156:Int)=((156:Nat):Int) from rfl,LH om,za,hd,zg (by simp only[zi,zG,zY];omega),BR]
 unfold Hq;simp only[zC];rfl
end Go.Av.L
end
/-
 A part.
-/
section
namespace Go.Av.L
open IntKind (i64)
open Go.Av Go.Lib
set_option linter.unusedVariables false
set_option linter.unusedSimpArgs false
set_option maxRecDepth 10000
theorem UW{s:List UInt8}(h:s.length<=100)(D:FM s=false):Bq s 100=some (pd s 100):=OF (n:=100) h om D
theorem Wy{s:List UInt8}(h:s.length<=32)(D:FM s=false):Bq s 32=some (pd s 32):=OF (n:=32) h om D
theorem ZR{s:List UInt8}(h:s.length<=155)(D:FM s=false):Bq s 155=some (pd s 155):=OF (n:=155) h om D
theorem cz:Bq ([]:List UInt8) 12=some (List.replicate 12 0):=OF (n:=12) (s:=[]) (by simp) om rfl
theorem ZZ{h:AO}{p q:List UInt8}(F:Fit h p q)(M:h.Name.length<=1000000):E0 h=some (ZC h p q).flatten:=by
 obtain⟨l1,l2⟩:=F.pq.len;have D:=F.nF;unfold W1 at D;simp only[zM]at D;obtain⟨z1,z2,z3,z4⟩:=D;obtain⟨zp,zq⟩:=cN F.pq z1;obtain⟨n1,n2,n3,n4,n5,n6,n7⟩:=(S0 h).1 F.n;obtain⟨r,er,X⟩:=V3 h.Name om;obtain rfl:=X.uniq F.pq;have hk:=F.k;have ek:(Ag (h.Kind==0) (some ([48]:List UInt8)) (some ([UInt8.ofNat h.Kind.toNat]:List UInt8)):Option (List UInt8))=some [Wx h.Kind]:=by
  rw[Wh];unfold Wx;split
  ·rfl
  ·rfl
 have ty:fV h.Kind=some (UInt8.ofNat h.Kind.toNat):=by
  have:=eV (n:=h.Kind.toNat) om;rwa [yJ hk.1]at this
 have d1:(pd q 100).length=100:=EY l2;have d2:(pd h.BG 100).length=100:=EY F.t.1;have d3:(pd h.A6 32).length=32:=EY F.t.2.1;have d4:(pd h.A7 32).length=32:=EY F.t.2.2;have d5:(pd p 155).length=155:=EY l1;have o8:∀v,(Hq v 8).length=8:=λv=>HZ om;have o12:∀v,(Hq v 12).length=12:=λv=>HZ om;unfold E0;rw[er,za];dsimp only;rw[ty,za,ek,za,UW l2 zq,za,PT n1,za,PT n2,PT n3,Wt n4,Wt n5,UW F.t.1 z2,Wy F.t.2.1 z3,Wy F.t.2.2 z4,PT n6,PT n7,ZR l1 zp,cz];simp only[za,zi,zG,zY,zW,d1,d2,d3,d4,d5,o8,o12,BR,Nat.reduceAdd,Nat.reduceLeDiff,decide_true];have e:((((((((((((((pd q 100++Hq h.Mode.toNat 8)++Hq h.Cq.toNat 8)++Hq h.Cy.toNat 8)++Hq h.B9.toNat 12)++Hq h.Time.toNat 12)++([32,32,32,32,32,32,32,32]:List UInt8))++[Wx h.Kind])++pd h.BG 100)++([117,115,116,97,114,0,48,48]:List UInt8))++pd h.A6 32)++pd h.A7 32)++Hq h.BY.toNat 8)++Hq h.Bi.toNat 8)++pd p 155)++List.replicate 12 0=AH h q++(List.replicate 8 32++ZH h p):=by
  unfold AH ZH ag;simp only[yi,qR,zC,zR];rfl
 rw[e,cZ F.lens.1 (by simp) F.lens.2,za];unfold ZC;rw[XH];rfl
def dP(s:List UInt8):List UInt8:=s++List.replicate ((512 - s.length%512)%512) 0
theorem gN(a b:Nat):Int.tmod (a:Int) (b:Int)=((a%b:Nat):Int):=by rw[ql om,Int.natCast_emod]
theorem eT{s:List UInt8}(h:s.length<=100000):Fm s=some (dP s):=by
 have key:∀(k j:Nat),j+k=(512 - s.length%512)%512->loop ET (s++List.replicate j 0)=some (dP s):=by
  intro k
  induction k with
  |zero=>
   intro j O;refine Cl ?_;unfold ET dP;dsimp only;rw[<-O,yQ,show(512:Int)=((512:Nat):Int) from rfl,gN,zi,zW,show(s.length+j)%512=0 by omega];rfl
  |succ k ih=>
   intro j O;refine(Cm ?_).trans (ih (j+1) om);unfold ET;dsimp only;rw[show(512:Int)=((512:Nat):Int) from rfl,gN,show((((s++List.replicate j (0:UInt8)).length%512:Nat):Int) !=(0:Int))=true from by rw[xi,zi,zW];omega,Ah,zg (by simp only[zi,zW,zG,zY];omega),BR,zC,<-qk]
 unfold Fm;have:=key ((512 - s.length%512)%512) 0 om;rw[List.replicate_zero,zR]at this;rw[this];rfl
end Go.Av.L
end
/-
 A part.
-/
section
namespace Go.Av.L
open IntKind (i64)
open Go.Av Go.Lib
set_option linter.unusedVariables false
set_option linter.unusedSimpArgs false
theorem aA{b:Bool}{v n:Int}:(Ag b (some true) ((B5 v n).bind λx=>some (!x)):Option Bool)=some (b|| !((decide (v>=0))&&(decide (v<n)))):=by
 unfold B5;cases b<;>rfl
theorem ZQ{h:AO}(h1:h.Name.length<=1900000)(h2:h.BG.length<=1900000)(S:h.A6.length<=1900000)(h4:h.A7.length<=1900000)(hk:0<=h.Kind/\h.Kind<=255):
  W (FP h) λe=>e=0->h.Name.length<=1000000/\∃p q,Fit h p q:=by
 obtain⟨r1,a1,b1⟩:=Nv h.Name om;obtain⟨r2,a2,b2⟩:=Nv h.BG om;obtain⟨r3,a3,b3⟩:=Nv h.A6 om;obtain⟨r4,a4,b4⟩:=Nv h.A7 om;unfold FP;refine Aq (CJ a1 (Bc (λ_=>Ae λh=>absurd h (by decide)) λn1=>Aq (CJ a2 (Bc (λ_=>Ae λh=>absurd h (by decide)) λn2=>Aq (CJ a3 (Aq ?_))))));have D:(Ag (!(r3==h.A6)) (some true) ((CP h.A7).bind λx5=>some (!(x5==h.A7))):Option Bool)=some (FM h.A6||FM h.A7):=by
  rw[b3,a4,za,b4,xn,xn];cases FM h.A6<;>rfl
 refine CJ D (Bc (λ_=>Ae λh=>absurd h (by decide)) λn3=>Aq ((V3 h.Name om).mono ?_));rintro⟨p,q,b⟩ K;refine Bc (λ_=>Ae λh=>absurd h (by decide)) λn4=>?_;rw[b1,xn]at n1;rw[b2,xn]at n2;simp only[zM,zD,yP]at n3 n4;obtain⟨⟨⟨rfl,l1⟩,l2⟩,l3⟩:=n4;have hw:B5 h.Mode (2097152:Int)=some (decide (h.Mode>=0)&&decide (h.Mode<2097152)):=rfl;refine Aq (CJ hw ?_);refine Aq (CJ aA ?_);refine Aq (CJ aA ?_);refine Aq (CJ aA ?_);refine Aq (CJ aA ?_);refine Aq (CJ aA ?_);refine Aq (CJ aA ?_);refine Bc (λ_=>Ae λh=>absurd h (by decide)) λn5=>Ae λ_=>?_;simp only[zM,yP,zf,zy]at n5;have V:h.Name.length<=1000000:=by
  rcases K with⟨hh,_⟩|⟨_,⟨hh,_⟩|⟨i,hc,_,_⟩⟩
  ·omega
  ·cases hh
  ·have:=hc.2.1;have:=hc.2.2.2.2;omega
 obtain⟨r,e,X⟩:=VJ h.Name V;have:=X.uniq K;subst this;refine⟨V,p,q,e,K,?_,⟨by omega,by omega,by omega⟩,?_,hk⟩
 ·unfold W1;rw[n1,n2,n3.1,n3.2];rfl
 ·unfold Xz SC;simp only[ya,qt,qp,zf,zy];simp;omega
end Go.Av.L
end
/-
 A part.
-/
section
namespace Go.Av.L
open IntKind (i64)
open Go.Av Go.Lib
set_option linter.unusedVariables false
set_option linter.unusedSimpArgs false
structure bk(x:B1):Prop where
 n:x.H.Name.length<=1900000
 l:x.H.BG.length<=1900000
 u:x.H.A6.length<=1900000
 g:x.H.A7.length<=1900000
 k:0<=x.H.Kind/\x.H.Kind<=255
 r:∀p∈x.Hh,bare p<=2200000
 p:x.IE.length<=1900000
theorem cW(s:List UInt8):(dP s).length<=s.length+511:=by
 unfold dP;rw[zi,zW];omega
theorem fM{l:List B1}(I:∀x∈l,bk x){s:List UInt8}{i:Nat}(J:s.length<=10000*i):
  W (FB l (s,(i:Int))) λr=>match r with| .inl t=>i<12/\∃s',t=(s',((i+1:Nat):Int))/\s'.length<=10000*(i+1)| .inr t=>t=s:=by
 unfold FB;refine Bc (λhc=>?_) λ_=>Ae rfl;simp only[zf,zy]at hc;have G:i<l.length:=by omega
 have B:=I _ (zP G);refine Aq (Aq (CJ (Fe G) ?_));generalize l[i]=x at B;have hp:=B.p;obtain⟨k,hk,k1,k2⟩:∃k:Nat,mn (x.IE.length:Int) (1500:Int)=(k:Int)/\k<=x.IE.length/\k<=1500:=by
  unfold mn;split
  ·exact⟨1500,rfl,by omega,by omega⟩
  ·exact⟨x.IE.length,rfl,by omega,by omega⟩
 rw[hk];refine Aq (CJ (Hp k1) (Aq (W.mono (Q:=λt=>t.length<=3000) ?_ ?_)))
 ·have U:(x.IE.take k).length<=3000:=by rw[zA];omega
  refine Bc (λ_=>Aq ((YD B.r).mono ?_)) λ_=>Ae U;rintro⟨a,b⟩ _;refine Bc (λh=>Ae ?_) λ_=>Ae U;simp only[zf,zy]at h;omega
 ·intro t U;refine Aq ((ZQ (h:={x.H with B9:=(t.length:Int)}) B.n B.l B.u B.g B.k).mono ?_);intro e he;refine Bc (λh0=>?_) λ_=>Ae (Ae ⟨by omega,s,by rw[Ek om om];congr 1,by omega⟩);obtain⟨M,p,q,F⟩:=he (beq_iff_eq.1 h0);have R:(ZC {x.H with B9:=(t.length:Int)} p q).flatten.length=512:=F.shape.flat;have hpd:=cW t;refine Aq (CJ (ZZ F M) (Aq (CJ (eT om) ?_)));refine E5 (zg om) (E5 (zg (by rw[zi];omega)) (Ae (Ae ⟨by omega,_,by rw[Ek om om];congr 1,?_⟩)));rw[zi,zi];omega
theorem Zm{l:List B1}(I:∀x∈l,bk x):∃s,Dx l=some s:=by
 have key:W (Dx l) λ_=>True:=by
  unfold Dx;refine Aq ((W.loop (Q:=λs:List UInt8=>s.length<=130000) (λt:List UInt8×Int=>∃i:Nat,t.2=(i:Int)/\i<=12/\t.1.length<=10000*i) (λt=>(12 - t.2).toNat) ⟨0,rfl,by omega,by simp⟩ ?_).mono λs J=>Aq ?_)
  ·rintro⟨s,t⟩ ⟨i,rfl,h1,h2⟩;simp only at h2;refine(fM I h2).mono ?_;rintro(t|t) K
   ·obtain⟨g1,s',rfl,g2⟩:=K;refine⟨⟨i+1,rfl,by omega,g2⟩,?_⟩;show(12 - ((i+1:Nat):Int)).toNat<(12 - (i:Int)).toNat;omega
   ·show t.length<=130000;rw[show t=s from K];omega
  ·refine(W.loop (Q:=λ_=>True) (λt:List UInt8×Int=>∃i:Nat,t.2=(i:Int)/\i<=1024/\t.1.length<=130000+i) (λt=>(1024 - t.2).toNat) ⟨0,rfl,by omega,by show s.length<=_;omega⟩ ?_).mono λr _=>Ae trivial;rintro⟨s,t⟩ ⟨i,rfl,h1,h2⟩;simp only at h2;unfold GZ;refine Ce (λh=>E5 (zg (by simp;omega)) (Ae ⟨⟨i+1,by show i64.wrap _=_;rw[Ek om om];omega,by omega,by show(s++[0]).length<=_;rw[zi,qf];omega⟩,?_⟩)) λh=>Ae trivial;show(1024 - i64.wrap ((i:Int)+1)).toNat<(1024 - (i:Int)).toNat;rw[Ek om om];omega
 obtain⟨s,h,_⟩:=key;exact⟨s,h⟩
end Go.Av.L
end
/-
 A part.
-/
section
namespace Go.Av.L
open IntKind (i64)
open Go.Av Go.Lib
set_option linter.unusedVariables false
set_option linter.unusedSimpArgs false
theorem ZP{l:List AB}(I:l.length<=1000000):FT l l=some true:=by
 unfold FT;rw[show((l.length:Int) !=(l.length:Int))=false from by simp,AV];have e:loop (EF l l) (0:Int)=some (.inl ()):=by
  refine W.eq (W.list (l:=l) (λ(_:Unit) (i:Nat)=>(i:Int)) (λ_ i=>True) ?_ ?_ () trivial)
  ·intro _ _;unfold EF;refine Ce (λh=>by omega) λ_=>Ae rfl
  ·intro _ i hi _;unfold EF;refine Ce (λ_=>?_) λh=>by omega
   try simp only[]
   rw[Fe hi,za,za,WJ kr kr,za];exact Ae ⟨(),by rw[IK om],trivial⟩
 rw[e];rfl
theorem Yg(m:AM)(B:m.Extra.length<=1000000):EJ m m=some true:=by
 unfold EJ;simp only[zQ,yZ,qp,Ah];rw[WJ kr kr,za,za,Ah,ZP B];rfl
theorem bA{l:List AM}(I:l.length<=1000000)(B:∀m∈l,m.Extra.length<=100000):FQ l l=some true:=by
 unfold FQ;rw[show((l.length:Int) !=(l.length:Int))=false from by simp,AV];have e:loop (D9 l l) (0:Int)=some (.inl ()):=by
  refine W.eq (W.list (l:=l) (λ(_:Unit) (i:Nat)=>(i:Int)) (λ_ i=>True) ?_ ?_ () trivial)
  ·intro _ _;unfold D9;refine Ce (λh=>by omega) λ_=>Ae rfl
  ·intro _ i hi _;unfold D9;refine Ce (λ_=>?_) λh=>by omega
   try simp only[]
   rw[Fe hi,za,za,Yg _ (z8 (B _ (zP hi)) om),za];exact Ae ⟨(),by rw[IK om],trivial⟩
 rw[e];rfl
theorem XC{x:Td}(I:x.L.length<=1000000)(B:∀m∈x.Partial::x.L,m.Extra.length<=100000):Ep x x=some true:=by
 unfold Ep;rw[bA I λm hm=>B m (yj _ hm),za];simp only[zQ,yZ,qp,Ah];rw[Yg _ (z8 (B x.Partial (by simp)) om)];rfl
theorem Yy:Ex=some true:=by kernel_rfl
end Go.Av.L
end
/-
 A part.
-/
section
namespace Go.Av.L
open IntKind (i64)
open Go.Av Go.Lib
set_option linter.unusedVariables false
set_option linter.unusedSimpArgs false
theorem Zi{x0:List B1}(h0:∀x∈x0,bk x){x1 x2:List Int}(h1:∀v∈x1,0<=v/\v<=65535)(h2:∀v∈x2,0<=v/\v<=65535):C8 x0 x1 x2=some true:=by
 obtain⟨s,J⟩:=Zm h0;have hc:Kd ⟨3000,400⟩:=⟨by decide,by decide,by decide,by decide⟩;unfold C8;rw[J,za];cases R:(((decide ((s.length:Int)>12000))||(decide ((x1.length:Int)>40)))||(decide ((x2.length:Int)>40)))with
 |true=>rw[Ah,Yy];rfl
 |false=>
  simp only[zM,zD]at R;obtain⟨⟨l0,l1⟩,l2⟩:=R;obtain⟨r,x,t,gl,a1,a2,a3,a4,a5⟩:=cI (cj hc) (Ys hc) KB.held hc (KB.zero hc) (s:=s) (cuts:=x1) om h1 om;obtain⟨r',x',t',gl',b1,b2,b3,b4,b5⟩:=cI (cj hc) (Ys hc) KB.held hc (KB.zero hc) (s:=s) (cuts:=x2) om h2 om;have e:=a1.mP di b1;cases e;have e2:=a2.one b2;subst e2;rw[AV,a5,b5];simp only[za,yZ,Ah];rw[XC (x:={x with E:=t.Dl,At:=t.Lh}) a4 a3.xs];simp only[za,Ah];rw[Yy];rfl
end Go.Av.L
end
/-
 A part.
-/
section
namespace Go.Av.L
open IntKind (i64)
open Go.Av Go.Lib
set_option linter.unusedVariables false
set_option linter.unusedSimpArgs false
theorem RF(x0:List B1)(k0:Tb (λx:B1=>(λx:AO=>IU x.Name/\IU x.BG/\(Lv .u8) x.Kind/\(Lv .i64) x.Mode/\(Lv .i64) x.Cq/\(Lv .i64) x.Cy/\(Lv .i64) x.B9/\(Lv .i64) x.Time/\IU x.A6/\IU x.A7/\(Lv .i64) x.BY/\(Lv .i64) x.Bi/\(Lv .i64) x.Form/\True) x.H/\(Tb (λx:AB=>IU x.Key/\IU x.Value/\True)) x.Hh/\IU x.IE/\True) x0)(x1:List Int)(k1:Tb (Lv .u16) x1)(x2:List Int)(k2:Tb (Lv .u16) x2):C8 x0 x1 x2=some true:=by
 refine Zi (λx B=>?_) k1.2 k2.2;obtain⟨⟨a1,a2,a3,-,-,-,-,-,a4,a5,-⟩,⟨-,r⟩,p,-⟩:=k0.2 x B;unfold IU at a1 a2 a4 a5 p;refine⟨by omega,by omega,by omega,by omega,a3,λq K=>?_,by omega⟩;obtain⟨r1,r2,-⟩:=r q K;unfold IU at r1 r2;unfold bare;omega
end Go.Av.L
end
/-
 A part.
-/
section
namespace Go.Av
open IntKind (i64)
open Go
theorem Ls{P:Program}{x:String×DataW Unit}{r:List (String×DataW Unit)}{w:World}(h:laidMet P (x::r) w):laidMet P r w:=by
 obtain⟨ps,hv,hnd,hrows⟩:=h;obtain⟨n,d⟩:=x;obtain⟨g,t,cs,fuel,p,q,_,_,_,_,K,rfl⟩:=hv;exact⟨q,K,List.Nodup.sublist (List.sublist_append_right _ _) hnd,λb off hm=>hrows b off (List.mem_append_right _ hm)⟩
def VK(W:World)(g:Nat)(cs:List AD):Prop:=
 g<W.heap.size/\∃cur e fz,W.heap[g]?=some (.cells cur e fz)/\(cs≠[]->cur.size=cs.length)/\∀(j:Nat) (a:AD),cs[j]?=some a->a.one=true/\Av.G9 a=true/\∃c,cur[j]?=some c/\VR ⟨λ_=>none,λ_ _=>none,λ_ _=>False⟩ a c
theorem KX{P:Program}{W:World}{name:String}{k:IntKind}{zs:List Int}{g:Nat}(hg:P.globalNamed name=some g)(h:Lib.TabIs P W name k zs):VK W g (zs.map λz=>AD.int k z):=by
 unfold Lib.TabIs World.var? at h;rw[hg]at h;simp only[za]at h;split at h
 ·rename_i cs e fz hc;injection h with h;have C:g<W.heap.size:=by
   by_cases C:g<W.heap.size
   ·exact C
   ·rw[Array.getElem?_eq_none om]at hc;cases hc
  refine⟨C,cs,e,fz,hc,λ_=>by rw[h];simp,λj a Y=>?_⟩;rw[List.getElem?_map,zk]at Y;obtain⟨z,D,rfl⟩:=Y;refine⟨rfl,rfl,.int k z,?_,VR.int k z⟩;rw[h];simp[D]
 ·cases h
theorem Pb{W:World}{g:Nat}{cs:List AD}{l:List (Nat×List AD)}(h:VK W g cs)(M:cs=[]->∃n:Int,W.cell? ⟨g,0,none⟩=some (.int .i64 n))(I:CH (NW l) W):CH (NW ((g,cs)::l)) W:=⟨λg' cs' e=>by
 unfold NW at e;rw[J9]at e;by_cases B:g=g'
 ·rw[zl B]at e;have:=zJ e;subst this;subst B;exact h
 ·rw[zj B]at e;exact I.1 g' cs' e,λg' e=>by
 unfold NW at e;rw[J9]at e;by_cases B:g=g'
 ·rw[zl B]at e;have:=zJ e;subst B;exact M this
 ·rw[zj B]at e
  exact I.2 g' e⟩
theorem Nd{W:World}{g:Nat}{a:AD}{cs:List AD}{l:List (Nat×List AD)}(h:VK W g (a::cs))(I:CH (NW l) W):CH (NW ((g,a::cs)::l)) W:=Pb h (λh=>by cases h) I
theorem XJ{W:World}{g:Nat}{l:List (Nat×List AD)}(h:∃n:Int,W.cell? ⟨g,0,none⟩=some (.int .i64 n))(I:CH (NW l) W):CH (NW ((g,[])::l)) W:=by
 refine Pb ?_ (λ_=>h) I;obtain⟨n,M⟩:=h;unfold World.cell? at M;split at M
 ·rename_i cs e fz hc;have T:W.heap[g]?=some (.cells cs e fz):=hc;refine⟨?_,cs,e,fz,T,λh=>absurd rfl h,λj a Y=>by simp at Y⟩;by_cases C:g<W.heap.size
  ·exact C
  ·rw[Array.getElem?_eq_none om]at T;cases T
 ·cases M
theorem Xq(W:World):CH (NW []) W:=⟨λg cs e=>(by cases e),λg e=>(by cases e)⟩
end Go.Av
end
