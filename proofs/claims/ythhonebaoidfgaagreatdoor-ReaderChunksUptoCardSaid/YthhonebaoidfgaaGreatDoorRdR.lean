/-
  Several texts in one.
-/
import Derived.Lib.ItoaMem
import Derived.Test.YthhonebaoidfgaaGreatDoorRdQ
set_option linter.unusedSimpArgs false
/-
 A part.
-/
section
namespace Go.Av.L
open IntKind (i64 u8)
open Go.Av
set_option linter.unusedVariables false
set_option linter.unusedSimpArgs false
def Nw(P:Program):Nat->TypeId->AD->AD->Bool
 |0,_,_,_=>false
 |d+1,t,x,y=>
  match P.underlying t,x,y with
  |some .bool,.bool _,.bool _=>true
  |some (.int _),.int k _,.int k' _=>decide (k=k')
  |some .string,.str _,.str _=>true
  |some (.struct fs),.agg xs,.agg ys=> !P.stoodInHeld t&&fs.toList.all λf=>decide (f.name="_")||(match GU P f.type xs f.offset,GU P f.type ys f.offset with|some a,some b=>Nw P d f.type a b|_,_=>false)
  |some (.array n e),.agg xs,.agg ys=>match DK P e with|some z=>(List.range n).all λi=>(match GU P e xs (i*z),GU P e ys (i*z)with|some a,some b=>Nw P d e a b|_,_=>false)|none=>false
  |_,_,_=>false
theorem Q3 {P:Program} {eq:TypeId->AD->AD->Option Bool} {sm:TypeId->AD->AD->Bool} (h:∀t a b,sm t a b=true->∃v,eq t a b=some v) {xs ys:List AD}:∀fs:List Field,(fs.all λf=>decide (f.name="_")||(match GU P f.type xs f.offset,GU P f.type ys f.offset with|some a,some b=>sm f.type a b|_,_=>false))=true->∃v,eqFields P eq xs ys fs=some v
 |[],_=>⟨true,rfl⟩
 | f::fs,C=>by
  simp only[ya,zf]at C;obtain⟨v,F⟩:=Q3 h fs C.2;unfold eqFields;by_cases B:f.name="_"
  ·rw[zl B];exact⟨v,F⟩
  ·rw[zj B];have h1:=C.1;simp only[B,decide_false,yX]at h1;split at h1
   ·rename_i a b I E;rw[I,E];obtain⟨u,hu⟩:=h _ _ _ h1;simp only[hu];cases u
    ·exact⟨false,rfl⟩
    ·exact⟨v,F⟩
   ·cases h1
theorem Rw{P:Program}{eq:TypeId->AD->AD->Option Bool}{sm:TypeId->AD->AD->Bool}(h:∀t a b,sm t a b=true->∃v,eq t a b=some v){e:TypeId}{z:Nat}{xs ys:List AD}:∀n i:Nat,(∀j,i<=j->j<i+n->(match GU P e xs (j*z),GU P e ys (j*z)with|some a,some b=>sm e a b|_,_=>false)=true)->∃v,KA P eq e z xs ys n i=some v
 |0,i,_=>⟨true,rfl⟩
 | n+1,i,C=>by
  obtain⟨v,F⟩:=Rw h (e:=e) (z:=z) (xs:=xs) (ys:=ys) n (i+1) (λj h1 h2=>C j om om);have h1:=C i (zw _) om;unfold KA;split at h1
  ·rename_i a b I E;rw[I,E];obtain⟨u,hu⟩:=h _ _ _ h1;simp only[hu];cases u
   ·exact⟨false,rfl⟩
   ·exact⟨v,F⟩
  ·cases h1
theorem iX{P:Program}:∀(d:Nat) (t:TypeId) (x y:AD),Nw P d t x y=true->∃v,Il P d t x y=some v
 |0,_,_,_,h=>by cases h
 | d+1,t,x,y,h=>by
  have ih:=iX (P:=P) d;unfold Nw at h;split at h
  ·rename_i hu;unfold Il;rw[hu];exact⟨_,rfl⟩
  ·rename_i hu;unfold Il;rw[hu];simp only[zy]at h;exact⟨_,zl h⟩
  ·rename_i hu;unfold Il;rw[hu];exact⟨_,rfl⟩
  ·rename_i hu;simp only[zf,zH]at h;unfold Il;rw[hu];simp only[h.1];exact Q3 (sm:=Nw P d) ih _ h.2
  ·rename_i hu;split at h
   ·rename_i z K;unfold Il;rw[hu];simp only[K,za];refine Rw (sm:=Nw P d) ih _ 0 λj _ Z=>?_;exact zr.1 h j (zO.2 om)
   ·cases h
  ·cases h
theorem Od {P:Program} {eq:TypeId->AD->AD->Option Bool} {sm:TypeId->AD->AD->Bool} (h:∀t a,sm t a a=true->eq t a a=some true) {xs:List AD}:∀fs:List Field,(fs.all λf=>decide (f.name="_")||(match GU P f.type xs f.offset,GU P f.type xs f.offset with|some a,some b=>sm f.type a b|_,_=>false))=true->eqFields P eq xs xs fs=some true
 |[],_=>rfl
 | f::fs,C=>by
  simp only[ya,zf]at C;have F:=Od h fs C.2;unfold eqFields;by_cases B:f.name="_"
  ·rw[zl B];exact F
  ·rw[zj B];have h1:=C.1;simp only[B,decide_false,yX]at h1;cases I:GU P f.type xs f.offset with
   |none=>rw[I]at h1;cases h1
   |some a=>
    rw[I]at h1;simp only at h1⊢;rw[h _ _ h1];exact F
theorem Pq{P:Program}{eq:TypeId->AD->AD->Option Bool}{sm:TypeId->AD->AD->Bool}(h:∀t a,sm t a a=true->eq t a a=some true){e:TypeId}{z:Nat}{xs:List AD}:∀n i:Nat,(∀j,i<=j->j<i+n->(match GU P e xs (j*z),GU P e xs (j*z)with|some a,some b=>sm e a b|_,_=>false)=true)->KA P eq e z xs xs n i=some true
 |0,i,_=>rfl
 | n+1,i,C=>by
  have F:=Pq h (e:=e) (z:=z) (xs:=xs) n (i+1) (λj h1 h2=>C j om om);have h1:=C i (zw _) om;unfold KA;cases I:GU P e xs (i*z)with
  |none=>rw[I]at h1;cases h1
  |some a=>
   rw[I]at h1;simp only at h1⊢;rw[h _ _ h1];exact F
theorem WU{P:Program}:∀(d:Nat) (t:TypeId) (x:AD),Nw P d t x x=true->Il P d t x x=some true
 |0,_,_,h=>by cases h
 | d+1,t,x,h=>by
  have ih:=WU (P:=P) d;unfold Nw at h;split at h
  ·rename_i hu H;rename_i b c;unfold Il;rw[hu];cases H;simp
  ·rename_i hu H;unfold Il;rw[hu];cases H;simp
  ·rename_i hu H;unfold Il;rw[hu];cases H;simp
  ·rename_i hu H;cases H;simp only[zf,zH]at h;unfold Il;rw[hu];simp only[h.1];exact Od (sm:=Nw P d) ih _ h.2
  ·rename_i hu H;cases H;split at h
   ·rename_i z K;unfold Il;rw[hu];simp only[K,za];refine Pq (sm:=Nw P d) ih _ 0 λj _ Z=>?_;exact zr.1 h j (zO.2 om)
   ·cases h
  ·cases h
theorem WJ{P:Program}{t:TypeId}{xs:List AD}(h:P.eqGuardType P.depth t=false)(D:Nw P 10000 t (.agg xs) (.agg xs)=true):gO P t xs xs=some true:=by
 unfold gO;rw[zj (by rw[h];decide)];exact WU _ _ _ D
end Go.Av.L
end
/-
 A part.
-/
section
namespace Go.Av.L
open IntKind (i64 u8)
open Go.Av Go.Lib
set_option linter.unusedVariables false
set_option linter.unusedSimpArgs false
set_option maxRecDepth 10000
abbrev Pr:=AB
abbrev Nf:=List UInt8
def jQ(l:List Pr):Prop:=l.Pairwise λa b=>a.Key<b.Key
def PE(c:UInt8):Bool:=decide (48<=c.toNat)&&decide (c.toNat<=57)
def XA(v:Nat)(c:UInt8):Nat:=10*v+(c.toNat - 48)
def I7(s:List UInt8):Nat:=s.foldl XA 0
theorem OH(s:List UInt8)(c:UInt8):I7 (s++[c])=10*I7 s+(c.toNat - 48):=by unfold I7;rw[qM];rfl
theorem Ya:∀(s:List UInt8) (v:Nat),s.all PE=true->s.foldl XA v<(v+1)*10^s.length
 |[],v,_=>by simp
 |c::s,v,h=>by
  simp only[ya,zf]at h;have ih:=Ya s (XA v c) h.2;have hc:=h.1;unfold PE at hc;simp only[zf,zy]at hc;rw[qd,zG,yT];refine zX ih ?_;have e:(v+1)*(10^s.length*10)=((v+1)*10)*10^s.length:=by rw[qU (10^s.length) 10,xF]
  rw[e];refine qj _ ?_;unfold XA;omega
theorem VP{s:List UInt8}(h:s.all PE=true){n:Nat}(B:s.length<=n):I7 s<10^n:=by
 have:=Ya s 0 h;rw[yz,qy]at this;exact zX this (xe (by decide) B)
theorem bD{s:List UInt8}(h:s.all PE=true)(B:s.length<=16):I7 s<10000000000000000:=VP h B
theorem js(c:UInt8):(decide ((c.toNat:Int)<48)||decide ((c.toNat:Int)>57))= !PE c:=by
 unfold PE;by_cases h1:48<=c.toNat<;>by_cases h2:c.toNat<=57
 ·rw[zg h1,zg h2,zm om,zm om];rfl
 ·rw[zg h1,zm h2,zm om,zg om];rfl
 ·rw[zm h1,zg h2,zg om,zm om];rfl
 ·rw[zm h1,zm h2,zg om,zg om];rfl
theorem aV{c:UInt8}(h:PE c=true):48<=c.toNat/\c.toNat<=57:=by
 unfold PE at h;simpa using h
theorem R3{s:List UInt8}{i:Nat}(hi:i<s.length)(I:(s.take i).all PE=true)(hd:PE s[i]=true):(s.take (i+1)).all PE=true:=by
 rw[KI (List.getElem?_eq_getElem hi),qe,I];simp[hd]
theorem YR{s:List UInt8}{i:Nat}(hi:i<s.length)(hd:PE s[i]=false):s.all PE=false:=by
 rw[List.all_eq_false];exact⟨s[i],zP hi,by rw[hd];decide⟩
theorem SV(x:List UInt8):∀k,I7 (x++List.replicate k 48)=I7 x*10^k
 |0=>by simp
 |k+1=>by
  rw[qk,<-zC,OH,SV x k,yT];show 10*(I7 x*10^k)+0=I7 x*(10^k*10);rw[yQ,qU 10,xF]
theorem TC:∀(s:List UInt8) (v:Nat),s.foldl XA v=v*10^s.length+I7 s
 |[],v=>by simp[I7]
 |c::s,v=>by
  have h1:=TC s (XA v c);have h2:=TC s (XA 0 c);unfold I7 at *;rw[qd,qd,h1,h2,zG,yT];unfold XA;rw[yC,yC,Nat.mul_zero,xL,yz,<-yG];congr 2;rw[qU 10 v,xF,qU 10]
theorem ZE(c:UInt8)(s:List UInt8):I7 (c::s)=(c.toNat - 48)*10^s.length+I7 s:=by
 have:=TC s (XA 0 c);unfold I7 at *;rw[qd,this];unfold XA;rw[Nat.mul_zero,yz]
theorem QU{k:Nat}(h:k<10):(UInt8.ofNat (48+k)).toNat=48+k:=UInt8.toNat_ofNat_of_lt' (by show 48+k<256;omega)
theorem cU{k:Nat}(h:k<10):PE (UInt8.ofNat (48+k))=true:=by
 unfold PE;rw[QU h,zg om,zg om];rfl
theorem QI(u:Nat):(decDigits u).all PE=true/\I7 (decDigits u)=u/\1<=(decDigits u).length:=by
 induction u using Nat.strongRecOn with
 | ind u ih=>
  rw[decDigits];by_cases h:u<10
  ·rw[dif_pos h];refine⟨by rw[ya,qt,cU h];rfl,?_,by rw[zG];omega⟩;show XA 0 (UInt8.ofNat (48+u))=u;unfold XA;rw[QU h];omega
  ·rw[dif_neg h];obtain⟨h1,h2,D⟩:=ih (u / 10) om;refine⟨?_,?_,by simp⟩
   ·rw[qe,h1,ya,qt,cU (show u%10<10 by omega)];rfl
   ·rw[OH,h2,QU om];omega
theorem JV:∀(k u:Nat),1<=k->u<10^k->(decDigits u).length<=k
 |0,u,h,_=>by omega
 | k+1,u,_,h=>by
  rw[decDigits];by_cases h0:u<10
  ·rw[dif_pos h0];simp
  ·rw[dif_neg h0,zi];cases k with
   |zero=>rw[yz,Nat.pow_one]at h;omega
   |succ k=>
    have:=JV (k+1) (u / 10) om (by rw[yT]at h;omega);simp;omega
theorem PH{n:Int}(h:0<=n):Lib.itoa n=decDigits n.toNat:=by unfold Lib.itoa;rw[zj om]
theorem eM(s:List UInt8)(C:s.length<=1000):W (Dw s) λr=>∃k,s=r++List.replicate k 48:=by
 unfold Dw;refine Bc (λ_=>Ae ⟨0,by simp⟩) λ_=>?_;unfold FC;refine Aq (Aq (W.loop (λx:List UInt8=>∃k,s=x++List.replicate k 48) (λx=>x.length) ⟨0,by simp⟩ λx H=>?_));obtain⟨k,hk⟩:=H;have hxl:x.length<=1000:=by have:=congrArg List.length hk;rw[zi]at this;omega
 unfold Fq;dsimp only;rw[IB];by_cases h0:(x.length:Int)>0
 ·rw[zl h0,Ek om om,show(x.length:Int) - 1=((x.length - 1:Nat):Int) by omega,MX om,za,za,show(48:Int)=((48:Nat):Int) from rfl,Ri om];by_cases E:x[x.length - 1]'om=48
  ·rw[show(x[x.length - 1]'om==UInt8.ofNat 48)=true from by rw[E];rfl,Ah,Hp om,za];refine Ae ⟨⟨k+1,?_⟩,by rw[zA];omega⟩;have N:x≠[]:=by intro e;rw[e]at h0;simp at h0
   have e1:x=x.take (x.length - 1)++[48]:=by
    conv=>lhs;rw[<-zI (x.length - 1) x,zT (show x.length - 1<x.length by omega),E]
    rw[qb om]
   rw[hk]
   conv=>lhs;rw[e1]
   rw[zC,List.replicate_succ];rfl
  ·rw[show(x[x.length - 1]'om==UInt8.ofNat 48)=false from beq_eq_false_iff_ne.2 E,AV];exact Ae (Ae (Ae ⟨k,hk⟩))
 ·rw[zj h0,za,AV];exact Ae (Ae (Ae ⟨k,hk⟩))
theorem ZB{ns:Nat}(h:ns<1000000000):∃r,decDigits (1000000000+ns)=49::r/\r.length=9/\r.all PE=true/\I7 r=ns:=by
 obtain⟨f1,f2,f3⟩:=QI (1000000000+ns);have h1:=JV 10 (1000000000+ns) om (by rw[show 10^10=10000000000 from rfl];omega);cases hd:decDigits (1000000000+ns)with
 |nil=>rw[hd]at f3;simp at f3
 | cons c r=>
  rw[hd]at f1 f2 h1;rw[ya,zf]at f1;obtain⟨c1,c2⟩:=aV f1.1;have hlt:=VP f1.2 (zw r.length);have O:r.length=9:=by
   rw[zG]at h1;rcases yh r.length 9 with h9|h9
   ·have E:I7 (c::r)<10^(r.length+1):=VP (by rw[ya,f1.1,f1.2];rfl) (by simp);have:10^(r.length+1)<=10^9:=xe (by decide) om;rw[show 10^9=1000000000 from rfl]at this;omega
   ·omega
  rw[ZE,O,show 10^9=1000000000 from rfl]at f2;rw[O,show 10^9=1000000000 from rfl]at hlt;have hc:c.toNat=49:=by omega
  refine⟨r,?_,O,f1.2,by omega⟩;rw[<-UInt8.toNat_inj.1 (show c.toNat=(49:UInt8).toNat from hc)]
def Sb(t:Ax):Prop:= -9007199254740991<=t.DR/\t.DR<=9007199254740991/\0<=t.CE/\t.CE<1000000000
theorem dw{t:Ax}(h:Sb t):D6 t=some true:=by
 obtain⟨h1,h2,D,h4⟩:=h;unfold D6;rw[zg om,zg h2,zg D,zg h4];rfl
end Go.Av.L
end
/-
 A part.
-/
section
namespace Go.Av.L
open IntKind (i64 u8)
open Go.Av Go.Lib
set_option linter.unusedVariables false
set_option linter.unusedSimpArgs false
def bare(p:Pr):Nat:=p.Key.length+p.Value.length+3
def Ra(p:Pr):Nat:=bare p+(decDigits (bare p+(decDigits (bare p)).length)).length
theorem U6{u k:Nat}(hk:1<=k)(h:u<10^k):(decDigits u).length<=k:=JV k u hk h
theorem Qk{u:Nat}(h:u<1000000000000):(decDigits u).length<=12:=U6 om (by rw[show 10^12=1000000000000 from rfl];exact h)
theorem XO{p:Pr}(h:bare p<=100000000000):bare p<=Ra p/\Ra p<=bare p+12:=by
 have h1:=Qk (u:=bare p) om;have h2:=Qk (u:=bare p+(decDigits (bare p)).length) om;unfold Ra;omega
theorem jM{p:Pr}{n:Nat}(B:1<=n)(h:bare p+n<10^n):Ra p<=bare p+n:=by
 have h1:=U6 (u:=bare p) B om;have h2:=U6 (u:=bare p+(decDigits (bare p)).length) B om;unfold Ra;omega
theorem S1(p:Pr)(h:bare p<=100000000000):GN p=some (Ra p:Int):=by
 have D:(p.Key.length:Int)+(p.Value.length:Int)=((p.Key.length+p.Value.length:Nat):Int):=by omega
 have E:((p.Key.length+p.Value.length:Nat):Int)+3=(bare p:Int):=by unfold bare;omega
 have T:p.Key.length+p.Value.length<=100000000000:=by unfold bare at h;omega
 have hi:∀v:Nat,Lib.itoa (v:Int)=decDigits v:=λv=>by rw[PH om,zS]
 have d1:=Qk (u:=bare p) om;have d2:=Qk (u:=bare p+(decDigits (bare p)).length) om;unfold GN;rw[D,Ek (x:=((p.Key.length+p.Value.length:Nat):Int)) om om,E,Ek (x:=(bare p:Int)) om om,zg om,BR,hi];rw[Ek (x:=(bare p:Int)+((decDigits (bare p)).length:Int)) om om,zg om,BR,show(bare p:Int)+((decDigits (bare p)).length:Int)=((bare p+(decDigits (bare p)).length:Nat):Int) by omega,hi,Ek om om];congr 1
def I5(l:List Pr):Nat:=(l.map Ra).sum
theorem N5(l:List Pr)(p:Pr):I5 (l++[p])=I5 l+Ra p:=by unfold I5;simp
theorem cn:I5 []=0:=rfl
def Sm(l:List Pr):Prop:=∀p∈l,bare p<=1000000
def ZU(l:List Pr):Prop:=∀p∈l,bare p<=900000
theorem ZU.sm{l:List Pr}(h:ZU l):Sm l:=λp V=>z8 (h p V) om
theorem X2{l:List Pr}(hm:Sm l)(T:l.length<=1000000):∀(k i:Nat),i+k=l.length->loop (E7 l) ((I5 (l.take i):Int),(i:Int))=some (I5 l:Int):=by
 intro k
 induction k with
 |zero=>
  intro i hi;refine Cl ?_;unfold E7;show Ag (decide ((i:Int)<(l.length:Int))) _ _=_;rw[zm om,AV,zB om]
 | succ k ih=>
  intro i hi;have R:i<l.length:=by omega
  have U:∀j,j<=l.length->I5 (l.take j)<=1000012*j:=by
   intro j
   induction j with
   |zero=>intro _;rw[qE];exact zw _
   |succ j ihj=>
    intro Z;have h1:=ihj om;have h2:=XO (p:=l[j]) (by have:=hm _ (zP (show j<l.length by omega));omega);have D:=hm _ (zP (show j<l.length by omega));rw[qv om,N5];omega
  have h1:=U i om;have h2:=U (i+1) om;have e:I5 (l.take (i+1))=I5 (l.take i)+Ra l[i]:=by rw[qv R,N5]
  refine(Cm ?_).trans (ih (i+1) om);unfold E7;show Ag (decide ((i:Int)<(l.length:Int))) _ _=_;rw[zg om,Ah,Fe R];simp only[za];rw[S1 _ (by have:=hm _ (zP R);omega)];simp only[za];rw[Ek om om,Ek om om,e];simp only[qq,Int.natCast_one]
theorem Wg{l:List Pr}(hm:Sm l)(T:l.length<=1000000):Es l=some (I5 l:Int):=by
 unfold Es;have e:loop (E7 l) ((0:Int),(0:Int))=some (I5 l:Int):=X2 hm T l.length 0 om;rw[e];rfl
def lL(s:List UInt8)(r:Int×Int):Prop:=r.2=0\/∃n v:Nat,r=((v:Int),(n:Int))/\1<=n/\n<=6/\n<s.length/\v<10^n
theorem aL{s:List UInt8}(h0:s≠[])(C:s.length<=1000000):W (HP s) (lL s):=by
 have V:0<s.length:=yK.2 h0;unfold HP;have key:W (loop (HI s) ((0:Int),(0:Int))) λr=>∃n v:Nat,r=((v:Int),(n:Int))/\n<=7/\n<=s.length/\v<10^n:=by
  refine W.loop (λt=>∃n v:Nat,t=((v:Int),(n:Int))/\n<=7/\n<=s.length/\v<10^n) (λt=>(7 - t.2).toNat) ⟨0,0,rfl,by omega,by omega,by decide⟩ ?_;rintro t ⟨n,v,rfl,h1,h2,D⟩;have h8:10^n<=10^7:=xe om h1;unfold HI;by_cases B:n<s.length
  ·have hu:KE s (n:Int)=some ((s[n]'B).toNat:Int):=VW (List.getElem?_eq_getElem B);generalize s[n]=b at hu;have E:=b.toNat_lt;refine Aq (CJ (x:=decide ((b.toNat:Int)>=48)) (by rw[zg om,Ah,hu];rfl) (Aq ?_));refine CJ (x:=decide ((b.toNat:Int)>=48)&&decide ((b.toNat:Int)<=57)) (by rw[hu];cases decide ((b.toNat:Int)>=48)<;>rfl) (Bc (λhc=>?_) λ_=>Ae ⟨n,v,rfl,h1,h2,D⟩);simp only[zf,zy]at hc;refine Aq (CJ hu (Ae ?_));have e1:i64.wrap ((i64.wrap ((10:Int)*(v:Int)))+(i64.wrap (u8.wrap ((b.toNat:Int) - 48))))=((10*v+(b.toNat - 48):Nat):Int):=by
    rw[Ek (x:=(10:Int)*(v:Int)) om om,kX om om,Ek (x:=(b.toNat:Int) - 48) om om,Ek om om];omega
   have e2:i64.wrap ((n:Int)+1)=((n+1:Nat):Int):=by rw[Ek om om];omega
   rw[e1,e2];refine⟨⟨n+1,10*v+(b.toNat - 48),rfl,by omega,by omega,by rw[yT];omega⟩,?_⟩;show(7 - ((n+1:Nat):Int)).toNat<(7 - (n:Int)).toNat;omega
  ·refine Aq (CJ (x:=false) (by rw[zm om,AV]) (Aq (CJ (x:=false) rfl (Ae ⟨n,v,rfl,h1,h2,D⟩))))
 refine Aq (key.mono ?_);rintro r ⟨n,v,rfl,h1,h2,D⟩;obtain⟨u,hu⟩:=Ju (s:=s) (i:=0) om om;have K:∃z,(Ag (((n:Int)==0)||(decide ((n:Int)>6))) (some true) ((KE s (0:Int)).bind λx11=>some (x11==48)))=some z/\(z=false->1<=n/\n<=6):=by
  rw[hu];by_cases hc:n=0\/n>6
  ·refine⟨true,?_,λh=>absurd h (by decide)⟩;rw[show(((n:Int)==0)||(decide ((n:Int)>6)))=true by simp only[yp,yN,zy];omega];rfl
  ·refine⟨u==48,?_,λ_=>by omega⟩
   ·rw[show(((n:Int)==0)||(decide ((n:Int)>6)))=false by rw[zm om,beq_eq_false_iff_ne.2 om];rfl];rfl
 obtain⟨z,K,S⟩:=K;refine Aq (CJ K (Aq ?_));have X:∃y,(Ag (z||((n:Int)==(s.length:Int))) (some true) ((KE s (n:Int)).bind λx13=>some (x13 !=32)))=some y/\(y=false->z=false/\n<s.length):=by
  by_cases hc:z=true\/n=s.length
  ·refine⟨true,?_,λh=>absurd h (by decide)⟩;rw[show(z||((n:Int)==(s.length:Int)))=true by rcases hc with h|h<;>simp[h]];rfl
  ·simp only[not_or,yF]at hc;obtain⟨w,hw⟩:=Ju (s:=s) (i:=n) om om;refine⟨w !=32,?_,λ_=>⟨hc.1,by omega⟩⟩;rw[hc.1,yX,beq_eq_false_iff_ne.2 om,AV,hw];rfl
 obtain⟨y,X,M⟩:=X;refine CJ X (Bc (λ_=>Ae (.inl rfl)) λh=>Ae (.inr ⟨n,v,rfl,(S (M h).1).1,(S (M h).1).2,(M h).2,D⟩))
theorem Ye{s t:List UInt8}(ht:t.length=1)(h:(Lib.cut s t).2.2=true):(Lib.cut s t).1.length+(Lib.cut s t).2.1.length+1=s.length:=by
 unfold Lib.cut at *;split at h
 ·rename_i hi;have:=index_room s t hi;rw[zl hi];show(s.take _).length+(s.drop _).length+1=_;rw[zA,yc];omega
 ·cases h
theorem fH{s:List UInt8}{n:Nat}(C:s.length<=1000000)(B:n<=6):W (Ir s (n:Int)) λr=>r.2=true->bare r.1+n=s.length:=by
 unfold Ir;by_cases h0:s.length<=n+1
 ·refine Aq (CJ (x:=true) (by rw[Ek om om,zg om,Ah]) (Ae λh=>absurd h (by decide)))
 ·obtain⟨u,hu⟩:=Ju (s:=s) (i:=(s.length:Int) - 1) om om;have e:i64.wrap ((s.length:Int) - 1)=(s.length:Int) - 1:=Ek om om;rw[e];refine Aq (CJ (x:=u !=10) (by rw[zm om,AV,hu];rfl) (Bc (λ_=>Ae λh=>absurd h (by decide)) λ_=>?_));have hsub:E4 s (some (i64.wrap ((n:Int)+1))) (some ((s.length:Int) - 1))=some ((s.drop (n+1)).take (s.length - 1 - (n+1))):=by
   rw[Ek om om,show((n:Int)+1)=((n+1:Nat):Int) by omega,show((s.length:Int) - 1)=((s.length - 1:Nat):Int) by omega];exact Lw om om
  have T:((s.drop (n+1)).take (s.length - 1 - (n+1))).length=s.length - n - 2:=by rw[zA,yc];omega
  refine Aq (CJ hsub ?_);generalize (s.drop (n+1)).take (s.length - 1 - (n+1))=x at T;rw[show(decide (x.length<=4294967280))=true from zg om,BR];refine Ae λh=>?_;simp only[zf]at h;have:=Ye (s:=x) (t:=[61]) rfl h.1;show(Lib.cut x [61]).1.length+(Lib.cut x [61]).2.1.length+3+n=_;omega
structure iK(m:Nat)(l:List Pr):Prop where
 len:l.length<=256
 size:I5 l<=m
 sm:ZU l
theorem X8(s:List UInt8):W (HT s) λr=>iK s.length r.1:=by
 unfold HT;refine Ce (λ_=>Ae ⟨by simp,yf _,λp h=>absurd h yb⟩) λh=>Aq ?_;have bad:iK s.length []:=⟨by simp,yf _,λp h=>absurd h yb⟩;refine(W.loop (Q:=λr:List Pr×Int=>iK s.length r.1) (λt=>t.1.length<=256/\I5 t.1+t.2.2.2.length<=s.length/\ZU t.1) (λt=>t.2.2.2.length) ⟨by simp,by rw[cn];simp,λp h=>absurd h yb⟩ ?_).mono λr h=>Ae h;rintro⟨x1,x2,x3,x4⟩ ⟨h1,h2,D⟩;simp only at h1 h2 D;unfold Iz;refine Bc (λ_=>Ae ⟨h1,by show I5 x1<=_;omega,D⟩) λN=>Bc (λ_=>Ae bad) λJ=>?_;have hne':x4≠[]:=by intro Y;rw[Y]at N;cases N
 have h5:x1.length≠256:=by intro Y;rw[Y]at J;cases J
 refine Aq ((aL hne' om).mono ?_);rintro⟨v',n'⟩ G;refine Bc (λ_=>Ae bad) λhn0=>Ce (λ_=>Ae bad) λhle=>?_;rcases G with G|⟨n,v,G,q1,q2,q3,q4⟩
 ·exact absurd (beq_iff_eq.2 G) (by rw[hn0];decide)
 ·simp only[ze]at G;obtain⟨rfl,rfl⟩:=G;have F:v<=x4.length:=by omega
  refine Aq (CJ (Hp F) (Aq ((fH (s:=x4.take v) (n:=n) (by rw[zA];omega) q2).mono ?_)));rintro⟨p,ok⟩ V;refine Bc (λ_=>Ae bad) λhok=>?_;have hok':ok=true:=by simpa using hok
  have E:=V hok';simp only[zA]at E;have hb2:bare p+n=v:=by omega
  have hb3:3<=bare p:=by unfold bare;omega
  have hr:=jM (p:=p) q1 om;refine E5 (JH (by simp;omega) (by simp;omega)) (Aq (CJ (LH F) (Ae ⟨⟨?_,?_,?_⟩,?_⟩)))
  ·show(x1++[p]).length<=256;rw[zi,qf];omega
  ·show I5 (x1++[p])+(x4.drop v).length<=_;rw[N5,yc];omega
  ·intro q G;rcases zu.1 G with G|G
   ·exact D q G
   ·rw[zU.1 G];omega
  ·show(x4.drop v).length<x4.length;rw[yc];omega
end Go.Av.L
end
