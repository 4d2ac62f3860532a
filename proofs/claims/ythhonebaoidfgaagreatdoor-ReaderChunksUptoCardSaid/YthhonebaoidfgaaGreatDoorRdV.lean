/-
  Several texts in one.
-/
import Derived.Test.YthhonebaoidfgaaGreatDoorRdE
set_option linter.unusedSimpArgs false
/-
 A part.
-/
section
namespace Go.Av.L
open IntKind (i64)
open Go.Av Go.Lib
set_option linter.unusedVariables false
set_option linter.unusedSimpArgs false
def Kd(c:Bb):Prop:=1<=c.Head/\c.Head<=65536/\1<=c.Name/\c.Name<=4096
def mU:AO:=⟨[],[],0,0,0,0,0,0,[],[],0,0,0⟩
def kh:Ba:=⟨[],[],[],false,false,false⟩
def r0(c:Bb):Rd:=⟨c,SP,0,0,0,false,0,0,mU,0,[],kh,[]⟩
theorem jN{c:Bb}(hc:Kd c):Hm c=some (some (r0 c),0):=by
 unfold Hm;obtain⟨h1,h2,h3,V⟩:=hc;rw[zm om,zm om,zm om,zm om];rfl
theorem iw:Y4 SP where
 ok:={ne:=λx h=>absurd h yb,sz:=rfl,len:=by decide,jR:=λx h=>absurd (show x∈([]:List (List UInt8)) from h) yb}
 op:=rfl
theorem jX{cuts:List Int}(O:∀v∈cuts,0<=v/\v<=65535)(P:cuts.length<=1000000){m a i:Nat}(hm:m<=1000000)(ha:a<m)(hi:i<=1000000):
  ∃n:Nat,(Ag (decide ((cuts.length:Int)>0)) (B4 ((cuts.length:Int) !=0)<|(Kx cuts (Int.tmod (i:Int) (cuts.length:Int))).bind λx12=>some (mn (i64.wrap ((m:Int) - (a:Int))) (i64.wrap ((1:Int)+(i64.wrap x12))))) (some (i64.wrap ((m:Int) - (a:Int)))):Option Int)=some (n:Int)/\1<=n/\a+n<=m:=by
 have e:i64.wrap ((m:Int) - (a:Int))=((m - a:Nat):Int):=by rw[Ek om om];omega
 rw[e];by_cases h0:cuts.length=0
 ·rw[zm om,AV];exact⟨m - a,rfl,by omega,by omega⟩
 ·have hlt:i%cuts.length<cuts.length:=xx _ om;rw[zg om,Ah,show((cuts.length:Int) !=0)=true from bne_iff_ne.2 om,BR,U7 om,show(i:Int)%(cuts.length:Int)=((i%cuts.length:Nat):Int) from(Int.natCast_emod _ _).symm,Fe hlt];have hv:=O _ (zP hlt);simp only[za];generalize cuts[i%cuts.length]=v at hv;rw[Ek (x:=v) om om,Ek (x:=1+v) om om];unfold mn;split
  ·exact⟨(1+v).toNat,by congr 1;omega,by omega,by omega⟩
  ·exact⟨m - a,rfl,by omega,by omega⟩
section
variable {c:Bb} {B:Ba->List AB->Prop}
structure AQ(c:Bb)(B:Ba->List AB->Prop)(s:List UInt8)(a:Nat)(r:Rd)(F:Fd)(l:List Ev):Prop where
 fd:Y4 F
 emp:F.cs.flatten=[]
 inv:Inv c B r
 gi:∃gl,GI r (KK Vj l) gl/\MR (Vj,0) l=some (KK Vj l,gl)
 run:I3 RN (r0 c,Vj) (s.take a) (r,KK Vj l)
 len:l.length<=5*a
theorem bh(HB:Rs c B)(HK:O8 c B)(HH:Sn c B)(hc:Kd c){s:List UInt8}{cuts:List Int}(U:s.length<=65000)(O:∀v∈cuts,0<=v/\v<=65535)(P:cuts.length<=1000000)
  {a i:Nat} {r:Rd} {F:Fd} {l:List Ev} (ha:a<s.length) (hi:i<=a) (q:AQ c B s a r F l):
  ∃n r' F' l',1<=n/\a+n<=s.length/\C5 s c cuts ({r with Al:=F},l,(a:Int),(i:Int))=some (.inl ({r' with Al:=F'},l',((a+n:Nat):Int),((i+1:Nat):Int)))/\AQ c B s (a+n) r' F' l':=by
 obtain⟨n,Y,n1,n2⟩:=jX O P (m:=s.length) (a:=a) (i:=i) om ha om;obtain⟨gl,g1,g2⟩:=q.gi;have hw:((s.drop a).take n).length=n:=by rw[zA,yc];omega
 obtain⟨F',r',KH,e1,p⟩:=iI HB HK (x:=KK Vj l) (gl:=gl) (w:=(s.drop a).take n) q.fd q.emp q.inv g1 (by intro h;rw[h]at hw;simp at hw;omega) om;obtain⟨gl',k1,k2⟩:=p.gi;obtain⟨hv,h1,h2,h3⟩:=fu HH hc p.fd p.emp p.inv;have hlen:=p.len;have hql:=q.len;rw[hw]at hlen;have hta:s.take (a+n)=s.take a++(s.drop a).take n:=List.take_add;refine⟨n,r',F',l++KH,n1,n2,?_,p.fd,p.emp,p.inv,⟨gl',by rw[H7];exact k1,by rw[NZ,g2];show MR _ _=_;rw[k2,H7]⟩,by rw[hta,H7];exact q.run.app di p.run,by rw[zi];omega⟩;unfold C5;show Ag (decide ((a:Int)<(s.length:Int))) _ _=_;rw[zg om,Ah,Y];simp only[za];have w1:i64.wrap ((a:Int)+(n:Int))=((a+n:Nat):Int):=by rw[Ek om om];omega
 have w2:i64.wrap ((i:Int)+1)=((i+1:Nat):Int):=by rw[Ek om om];omega
 rw[w1,w2,Lw om n2,show a+n - a=n by omega];simp only[za];rw[show(decide (((s.drop a).take n).length<=1099511627776))=true from zg om,BR];rw[show BZ _ _=_ from e1];simp only[za];rw[show L1 200 (l.length+KH.length)=true from JH om om,BR];simp only[CV,za,bne_self_eq_false,AV];rw[show CM _=_ from h1];simp only[za];obtain⟨c1,c2,c3,c4⟩:=hc;rw[zm (by omega:¬hv<0),AV];rw[Ek (x:=3*c.Head) om om,Ek (x:=1024+3*c.Head) om om,Ek (x:=4*c.Name) om om,Ek (x:=1024+3*c.Head+4*c.Name) om om,zm (by omega:¬hv>1024+3*c.Head+4*c.Name)];rfl
theorem dQ(HB:Rs c B)(HK:O8 c B)(HH:Sn c B)(hc:Kd c){s:List UInt8}{cuts:List Int}(U:s.length<=65000)(O:∀v∈cuts,0<=v/\v<=65535)(P:cuts.length<=1000000):
  ∀(k a i:Nat) (r:Rd) (F:Fd) (l:List Ev),s.length<=a+k->a<=s.length->i<=a->AQ c B s a r F l->
  ∃r' F' l',loop (C5 s c cuts) ({r with Al:=F},l,(a:Int),(i:Int))=some (.inl ({r' with Al:=F'},l'))/\AQ c B s s.length r' F' l':=by
 intro k
 induction k with
 |zero=>
  intro a i r F l h1 h2 h3 q;have:a=s.length:=by omega
  subst this;refine⟨r,F,l,Cl ?_,q⟩;unfold C5;show Ag (decide ((s.length:Int)<(s.length:Int))) _ _=_;rw[zm om,AV]
 | succ k ih=>
  intro a i r F l h1 h2 h3 q;by_cases ha:a=s.length
  ·exact ih a i r F l om h2 h3 q
  ·obtain⟨n,r',F',l',n1,n2,e,q'⟩:=bh HB HK HH hc U O P (show a<s.length by omega) h3 q;rw[Cm e];exact ih (a+n) (i+1) r' F' l' om n2 om q'
theorem cB(r:Rd):∃v,∀F:Fd,B3 {r with Al:=F}=some v:=by
 by_cases h0:r.Af=0
 ·refine⟨r.at_,λF=>?_⟩;unfold B3;rw[show(({r with Al:=F}:Rd).Af==0)=true from beq_iff_eq.2 h0,Ah]
 ·by_cases h3:r.Af=3
  ·obtain⟨n,m,Y⟩:∃n m,Ei r.Bg.B9=some (n,m):=by
    unfold Ei Gv;simp only[za];cases(decide (r.Bg.B9>=0)&&decide (r.Bg.B9<=1099511627776))with
    |false=>exact⟨_,_,rfl⟩
    |true=>exact⟨_,_,rfl⟩
   refine⟨i64.wrap ((i64.wrap (r.at_ - n))+(i64.wrap (Int.tdiv r.Bg.B9 (512:Int)))),λF=>?_⟩;unfold B3;rw[show(({r with Al:=F}:Rd).Af==0)=false from beq_eq_false_iff_ne.2 h0,AV,show(({r with Al:=F}:Rd).Af==3)=true from beq_iff_eq.2 h3,Ah];rw[show Ei _=_ from Y];rfl
  ·refine⟨i64.wrap (r.at_+(i64.wrap (Int.tdiv (i64.wrap (r.Bg.B9 - r.Ao)) (512:Int)))),λF=>?_⟩;unfold B3;rw[show(({r with Al:=F}:Rd).Af==0)=false from beq_eq_false_iff_ne.2 h0,AV,show(({r with Al:=F}:Rd).Af==3)=false from beq_eq_false_iff_ne.2 h3,AV]
def bf(r t:Rd):Prop:=(r.Af=4/\t=r)\/(r.Af≠4/\∃v,(∀F:Fd,B3 {r with Al:=F}=some v)/\t={r with Af:=4,Dl:=3,Lh:=v,A9:=[]})
theorem bf.one{r t t':Rd}(h:bf r t)(h':bf r t'):t=t':=by
 rcases h with⟨a,b⟩|⟨a,v,b,d⟩<;>rcases h' with⟨a',b'⟩|⟨a',v',b',d'⟩
 ·rw[b,b']
 ·exact absurd a a'
 ·exact absurd a' a
 ·have:=(b SP).symm.trans (b' SP);cases this;rw[d,d']
theorem jK(r:Rd):∃t,bf r t/\t.Af=4/\∀F:Fd,Bw {r with Al:=F}=some (t.Dl,{t with Al:=F},F,F.BC,t.A9):=by
 by_cases V:r.Af=4
 ·refine⟨r,.inl ⟨V,rfl⟩,V,λF=>?_⟩;unfold Bw;rw[show(({r with Al:=F}:Rd).Af !=4)=false from bne_eq_false_iff_eq.2 V];rfl
 ·obtain⟨v,hv⟩:=cB r;refine⟨_,.inr ⟨V,v,hv,rfl⟩,rfl,λF=>?_⟩;unfold Bw;rw[show(({r with Al:=F}:Rd).Af !=4)=true from bne_iff_ne.2 V,Ah,hv F];rfl
theorem cI(HB:Rs c B)(HK:O8 c B)(HH:Sn c B)(hc:Kd c)(hB0:B kh []){s:List UInt8}{cuts:List Int}(U:s.length<=65000)(O:∀v∈cuts,0<=v/\v<=65535)(P:cuts.length<=1000000):
  ∃r x t gl,I3 RN (r0 c,Vj) s (r,x)/\bf r t/\GI r x gl/\x.L.length<=1000000/\EV s c cuts=some ({x with E:=t.Dl,At:=t.Lh},true):=by
 have I0:Inv c B (r0 c):=⟨rfl,rfl,.inl rfl,⟨by show(0:Int)<=0;decide,by show(0:Int)<=_;decide⟩,λh=>by rcases h with h|h<;>exact absurd (show(0:Int)=_ from h) (by decide),λ_=>by show(0:Nat)<512;decide,λh=>absurd (show(0:Int)=_ from h) (by decide),λh=>absurd rfl h,λ_=>rfl,hB0⟩;have G0:GI (r0 c) Vj 0:=⟨rfl,λh=>absurd (show(0:Int)=_ from h) (by decide),rfl,λm hm=>by rw[zU.1 hm];exact yf _⟩;have R0:I3 RN (r0 c,Vj) (s.take 0) (r0 c,Vj):=by
  have:=I3.part (M:=RN) (s:=(r0 c,Vj)) (w:=s.take 0) rfl (by show(s.take 0).length<512;simp);have e:RN.part (r0 c,Vj) (s.take 0)=(r0 c,Vj):=by rw[qE];rfl
  rw[e]at this;exact this
 obtain⟨r,F,l,e,q⟩:=dQ HB HK HH hc U O P s.length 0 0 (r0 c) SP [] om om (zw _) ⟨iw,rfl,I0,⟨0,G0,rfl⟩,R0,yf _⟩;obtain⟨gl,g1,g2⟩:=q.gi;obtain⟨t,T,V,D⟩:=jK r;have hql:=q.len;obtain⟨k1,k2⟩:=Zf om g2;have hrun:=q.run;rw[yr]at hrun;refine⟨r,KK Vj l,t,gl,hrun,T,g1,by omega,?_⟩;have hend:(((t.Af==4)&&(t.Dl==0))==(KK Vj l).E8)=true:=by
  rw[g1.fin,V];rcases T with⟨a,rfl⟩|⟨a,v,_,rfl⟩
  ·rw[a];show((true&&(_==(0:Int)))==(true&&decide _))=true;rw[y8,y8];exact zQ _
  ·rw[zm a];rfl
 unfold EV;rw[jN hc];simp only[za,show(((0:Int) !=0)||false)=false from rfl,AV];have e':loop (C5 s c cuts) (r0 c,[],(0:Int),(0:Int))=some (.inl ({r with Al:=F},l)):=e;rw[e'];simp only[za,k1];rw[show Bw _=_ from D F];simp only[za,CV];rw[show BZ _ _=_ from WK (r:=t) (F:=F) V [120]];simp only[za,Ah,zQ,Co,hend,zY];rfl
end
end Go.Av.L
end
/-
 A part.
-/
section
namespace Go.Av.L
open IntKind (i64)
open Go.Av Go.Lib
set_option linter.unusedVariables false
set_option linter.unusedSimpArgs false
set_option maxRecDepth 10000
theorem aj{l:List Pr}{k v:Nf}(h:da l k=some v):(⟨k,v⟩:Pr)∈l:=by
 have key:∀(l:List Pr) (m:Mp),Eh (l.foldl Lm m) k=some v->(⟨k,v⟩:Pr)∈l\/Eh m k=some v:=by
  intro l
  induction l with
  |nil=>intro m h;exact .inr h
  | cons p l ih=>
   intro m h;rcases ih (Lm m p) h with N|h
   ·exact .inl (.tail _ N)
   ·have h:Eh (Cz m p.Key p.Value) k=some v:=h;rw[X1]at h;by_cases e:k=p.Key
    ·rw[zl e]at h;cases h;subst e;exact .inl (.head _)
    ·rw[zj e]at h;exact .inr h
 rcases key l [] h with h|h
 ·exact h
 ·cases h
theorem Tz{a b:List Pr}(ha:ZU a)(K:ZU b)(la:a.length<=256)(lb:b.length<=256):W (GP a b) λr=>r.length<=512/\ZU r:=by
 have U:ZU (a++b):=λp C=>by
  rcases zu.1 C with C|C
  ·exact ha p C
  ·exact K p C
 have P:(a++b).length<=512:=by rw[zi];omega
 refine(Xu a b ⟨by omega,λp C=>by have:=U p C;unfold bare at this;omega⟩).mono λr hr=>⟨z8 hr.len P,λq N=>?_⟩;exact U _ (aj ((hr.mem q).1 N).2)
structure KB(c:Bb)(k:Ba)(g:List Pr):Prop where
 ll:k.CU.length<=256
 ls:(I5 k.CU:Int)<=c.Head
 lm:ZU k.CU
 gl:g.length<=256
 gs:(I5 g:Int)<=c.Head
 gm:ZU g
 nm:(k.Gm.length:Int)<=c.Name+1
 lk:(k.HR.length:Int)<=c.Name+1
theorem KB.held{c:Bb}:Sn c (KB c):=λk g h=>
 ⟨I5 g,I5 k.CU,Wg h.gm.sm (by have:=h.gl;omega),Wg h.lm.sm (by have:=h.ll;omega),by omega,h.gs,by omega,h.ls,h.nm,h.lk⟩
theorem KB.zero{c:Bb}(hc:Kd c):KB c kh []:=by
 obtain⟨h1,h2,h3,V⟩:=hc;exact⟨by decide,by show((0:Nat):Int)<=_;omega,λp h=>absurd h yb,by decide,by show((0:Nat):Int)<=_;omega,λp h=>absurd h yb,by show((0:Nat):Int)<=_;omega,by show((0:Nat):Int)<=_;omega⟩
theorem XK(s:List UInt8)(U:s.length<=1000000000):∃b,FO s ([47]:List UInt8)=some b:=by
 unfold FO FE;by_cases h:1<=s.length
 ·have e:i64.wrap ((s.length:Int) - (([47]:List UInt8).length:Int))=((s.length - 1:Nat):Int):=by
   rw[show(([47]:List UInt8).length:Int)=1 from rfl,Ek om om];omega
  rw[zg (show(s.length:Int)>=(([47]:List UInt8).length:Int) by show(s.length:Int)>=1;omega),Ah,e,LH om];exact⟨_,rfl⟩
 ·rw[zm (show ¬(s.length:Int)>=(([47]:List UInt8).length:Int) by show ¬(s.length:Int)>=1;omega),AV];exact⟨_,rfl⟩
theorem XT{c:Bb}(hc:Kd c){k:Ba}{g:List Pr}(hk:KB c k g){h:AO}(S:jU h):W (Ey k h g) λr=>r.2.2=0->AI 1000 r.1 r.2.1/\MM r.1=0:=by
 obtain⟨c1,c2,c3,c4⟩:=hc;have kn:=hk.nm;have kl:=hk.lk;have Y:=S.name;have P:=S.link;unfold Ey;refine Aq (W.mono (Q:=λt=>t.length<=900000) (Bc (λ_=>Ae om) λ_=>Ae om) λt1 q1=>Aq (W.mono (Q:=λt=>t.length<=900000) (Bc (λ_=>Ae om) λ_=>Ae om) λt2 q2=>Aq ?_));refine(Tz hk.gm hk.lm hk.gl hk.ll).mono ?_;rintro l ⟨l1,l2⟩;refine Aq ((Zn om l2 (h:={h with Name:=t1,BG:=t2}) S.size q1 q2 (by have:=S.uname;show h.A6.length<=_;omega) (by have:=S.ji;show h.A7.length<=_;omega)).mono ?_);rintro⟨m,n,e⟩ hA;refine Bc (λhe=>Ae λh=>absurd h (bne_iff_ne.1 he)) λhe=>?_;have he0:e=0:=bne_eq_false_iff_eq.1 he;have A:=hA he0;simp only at A;refine Aq (W.mono (Q:=λ_=>True) ?_ λkd _=>?_)
 ·refine Aq (W.mono (Q:=λ_=>True) ?_ λb _=>Bc (λ_=>Ae trivial) λ_=>Ae trivial);obtain⟨b,K⟩:=XK m.Name (by have:=A.nm;omega);exact Bc (λ_=>Aq (CJ K (Ae trivial))) λ_=>Ae trivial
 ·have A':AI 1000 {m with Kind:=kd} n:=⟨A.ex,A.nn,A.nm,A.lk,A.un,A.gn,A.dt,A.xs⟩;refine Aq (CJ (W5 {m with Kind:=kd} (by have:=A.ex;show m.Extra.length<=_;omega)) (Ae λh=>⟨A',h⟩))
theorem Vz{m:Mem}{n:Int}(A:AI 1000 m n)(hr:MM m=0)(Y:n<=1099511627776):∃b,Ec m n=some b:=by
 have R:=ZV hr;have hce:SN m n=0:=by unfold SN;rw[zl hr,zl ⟨A.nn,by omega⟩]
 obtain⟨⟨ts,e⟩,T,h0,t1,t2,_⟩:=eX R.ti;simp only at h0 t1 t2;subst h0;have hw:=aN hce R (by have:=A.nm;omega) A.ex ⟨A.nn,by omega⟩ T;have hi:∀v:Int,0<=v->v<9007199254740992->(Lib.itoa v).length<=20:=λv h1 h2=>by
  rw[PH h1];have:=JV 16 v.toNat om (by rw[show 10^16=10000000000000000 from rfl];omega);omega
 have hsm:Sm (lW m n ts):=by
  intro p C;rcases zu.1 ((fq m n ts).mem_iff.1 C)with C|C
  ·have a1:=A.nm;have a2:=A.lk;have a3:=A.un;have a4:=A.gn;have b1:=hi _ R.ui.1 R.ui.2;have b2:=hi _ R.gi.1 R.gi.2;have b3:=hi n A.nn om;have one:∀{cc:Prop} [Decidable cc] {x:Pr},p∈(if cc then[]else[x]:List Pr)->p=x:=by
    intro cc _ x h;split at h
    ·cases h
    ·exact zU.1 h
   unfold lB at C;simp only[zu,ye]at C;have kk:∀x:Nf,x∈[Rk,Kt,Ng,NJ,NF,Nx,Ru,MZ]->x.length<=8:=by decide
   rcases C with((((((C|C)|C)|C)|C)|C)|C)|C
   all_goals (have e:=one C;subst e;unfold bare)
   ·have:=kk Rk (by simp);simp only;omega
   ·have:=kk Kt (by simp);simp only;omega
   ·have:=kk Ng (by simp);simp only;omega
   ·have:=kk NJ (by simp);simp only;omega
   ·have:=kk NF (by simp);simp only;omega
   ·have:=kk Nx (by simp);simp only;omega
   ·have:=kk Ru (by simp);simp only;omega
   ·have:=kk MZ (by simp);simp only;omega
  ·have:=A.xs p C;omega
 have key:W (Ec m n) λ_=>True:=by
  unfold Ec;refine Aq (CJ hw (Bc (λ_=>Ae trivial) λ_=>Aq ?_));exact(UY hsm).mono λr _=>Ae trivial
 obtain⟨b,h,_⟩:=key;exact⟨b,h⟩
end Go.Av.L
end
/-
 A part.
-/
section
namespace Go.Av.L
open IntKind (i64)
open Go.Av Go.Lib
set_option linter.unusedVariables false
set_option linter.unusedSimpArgs false
set_option maxRecDepth 10000
def LJ(r:Rd)(e w:Int):Rd:={r with Af:=4,Dl:=e,Lh:=w,A9:=[]}
section
variable {c:Bb} {B:Ba->List AB->Prop}
theorem Km{r:Rd}(I:Inv c B r)(e w:Int):Inv c B (LJ r e w) where
 JP:=I.JP
 fd:=I.fd
 st:=.inr (.inr (.inr (.inr rfl)))
 left:=I.left
 hd:=λh=>by rcases h with h|h<;>exact absurd (show(4:Int)=_ from h) (by decide)
 VA:=λh=>absurd (show(4:Int)=_ from h) (by decide)
 Wp:=λh=>absurd (show(4:Int)=_ from h) (by decide)
 Ta:=λ_ _=>rfl
 ok:=λh=>absurd rfl h
 b:=I.b
theorem N4{r:Rd}{e:Int}(he:e≠0)(w:Int):ik (LJ r e w) []:=.inl ⟨rfl,by show(4:Int)≠1;decide,λ_=>he⟩
theorem Z4(k:Ba)(kd:Int):∃b,FK k kd=some b:=by
 unfold FK DJ;cases(kd==103)<;>cases(kd==120)<;>cases(kd==76)<;>exact⟨_,rfl⟩
theorem jJ(hc:Kd c){r:Rd}(I:Inv c B r)(h0:r.Af=0){h:AO}(S:jU h):
  ∃t,t.Al=SP/\(∀F:Fd,B0 {r with Al:=F} h=some ({t with Al:=F},t.A9))/\ik t []/\Inv c B t:=by
 obtain⟨c1,c2,c3,c4⟩:=hc;obtain⟨b,K⟩:=Z4 r.BV h.Kind;obtain⟨most,hm,hm2⟩:∃most:Int,(Ag ((h.Kind==76)||(h.Kind==75)) (some (i64.wrap (r.DI.Name+1))) (some r.DI.Head))=some most/\(if((h.Kind==76)||(h.Kind==75))=true then most=c.Name+1 else most=c.Head):=by
  rw[I.JP,Ek om om];cases((h.Kind==76)||(h.Kind==75))
  ·exact⟨_,rfl,rfl⟩
  ·exact⟨_,rfl,rfl⟩
 have hm3:most<=65536:=by split at hm2<;>omega
 have D:=I.fd;cases b with
 |true=>
  refine⟨LJ r 13 r.at_,D,λF=>?_,N4 (by decide) _,Km I _ _⟩;unfold B0;simp only[hm,za,K,Ah];rfl
 | false=>
  by_cases U:h.B9>most
  ·refine⟨LJ r 7 r.at_,D,λF=>?_,N4 (by decide) _,Km I _ _⟩;unfold B0;simp only[hm,za,K,AV,zg U,Ah];rfl
  ·have hz:=S.size;refine⟨{r with Af:=2,Ao:=h.B9,Bg:=h,IW:=r.at_,A9:=[]},D,λF=>?_,.inl ⟨rfl,by show(2:Int)≠1;decide,λV=>absurd (show(2:Int)=4 from V) (by decide)⟩,?_⟩
   ·unfold B0;simp only[hm,za,K,AV,zm U]
   ·exact⟨I.JP,I.fd,.inr (.inr (.inl rfl)),⟨hz,by show h.B9<=_;omega⟩,λ_=>⟨hz,by show h.B9<=_;omega⟩,λh=>absurd (show(2:Int)=0 from h) (by decide),λ_=>⟨by show(([]:List UInt8).length:Int)+h.B9=h.B9;simp,by show h.B9<=_;omega,by show(if _ then h.B9<=c.Name+1 else h.B9<=c.Head);split<;>rename_i N<;>simp only[N]at hm2<;>simp at hm2<;>omega⟩,λ_ h=>absurd rfl h,λ_=>I.ok (by rw[h0];decide),I.b⟩
end
theorem gv{c:Bb}(hc:Kd c){r:Rd}(I:Inv c (KB c) r)(h0:r.Af=0)(hg:r.A9=[]){h:AO}(S:jU h):
  ∃t l,t.Al=SP/\(∀(F:Fd) (p:List Ev),p.length<=1000000000->CL {r with Al:=F} p h=some ({t with Al:=F},t.A9,p++l))/\ik t l/\Inv c (KB c) t:=by
 obtain⟨⟨m,n,e⟩,hm,N⟩:=XT hc I.b S;simp only at N;have D:=I.fd;obtain⟨x4,hx4,hz⟩:∃x4:Int,(Ag (e !=0) (some e) (Ag ((decide (n>1099511627776))||((n !=0)&&(!((m.Kind==48)||(m.Kind==55))))) (some (6:Int)) ((Ag ((decide ((m.Name.length:Int)>r.DI.Name))||(decide ((m.BG.length:Int)>r.DI.Name))) (some true) ((Ec m n).bind λx6=>some (!x6)):Option (Bool)).bind λx5=>Ag x5 (some (7:Int)) (some e))):Option Int)=some x4/\(x4=0->AI 1000 m n/\n<=1099511627776):=by
  by_cases he:e=0
  ·obtain⟨A,hr⟩:=N he;rw[show(e !=0)=false from bne_eq_false_iff_eq.2 he,AV];cases K:((decide (n>1099511627776))||((n !=0)&&(!((m.Kind==48)||(m.Kind==55)))))with
   |true=>exact⟨6,rfl,λh=>absurd h (by decide)⟩
   | false=>
    have Y:n<=1099511627776:=by
     simp only[zM,zD]at K;omega
    obtain⟨b,hw⟩:=Vz A hr Y;rw[AV,hw];cases((decide ((m.Name.length:Int)>r.DI.Name))||(decide ((m.BG.length:Int)>r.DI.Name)))with
    |true=>exact⟨7,rfl,λh=>absurd h (by decide)⟩
    |false=>
     cases b with
     |false=>exact⟨7,rfl,λh=>absurd h (by decide)⟩
     |true=>exact⟨e,rfl,λ_=>⟨A,Y⟩⟩
  ·rw[show(e !=0)=true from bne_iff_ne.2 he];exact⟨e,rfl,λh=>absurd h he⟩
 by_cases he:x4=0
 ·obtain⟨A,Y⟩:=hz he;subst he;refine⟨{r with Af:=1,Ao:=n,Bg:={h with B9:=n},BV:=kh},[N9 m n],D,λF p C=>?_,.inr (.inl ⟨m,rfl,A.dt,z8 A.ex om,rfl⟩),?_⟩
  ·unfold CL;simp only[hm,za,hx4,show((0:Int) !=0)=false from rfl,AV];rw[show L1 200 (p.length+([(⟨1,m,n,[]⟩:AS)]).length)=true from WH om,BR];rfl
  ·have b:=I.b;obtain⟨c1,c2,c3,c4⟩:=hc
   exact⟨I.JP,I.fd,.inr (.inl rfl),⟨A.nn,Y⟩,λ_=>⟨A.nn,Y⟩,λh=>absurd (show(1:Int)=0 from h) (by decide),λh=>absurd (show(1:Int)=2 from h) (by decide),λ_ _=>hg,λ_=>I.ok (by rw[h0];decide),
    ⟨by show(0:Nat)<=256;decide,by show((0:Nat):Int)<=_;omega,λp h=>absurd h yb,b.gl,b.gs,b.gm,by show((0:Nat):Int)<=_;omega,by show((0:Nat):Int)<=_;omega⟩⟩
 ·refine⟨LJ r x4 r.at_,[],D,λF p C=>?_,N4 he _,Km I _ _⟩;unfold CL;simp only[hm,za,hx4,show(x4 !=0)=true from bne_iff_ne.2 he,Ah,zR];rfl
theorem cj{c:Bb}(hc:Kd c):Rs c (KB c):=by
 intro r s I h0 hg U;have D:=I.fd;obtain⟨b,K⟩:=aC s om;cases b with
 | true=>
  cases hk:((r.BV.ED||r.BV.Dg)||r.BV.EU)with
  |true=>
   have J:=Km I 13 r.at_;refine⟨{LJ r 13 r.at_ with Kb:=true},[],⟨D,λF p C=>?_⟩,.inl ⟨rfl,by show(4:Int)≠1;decide,λ_=>by show(13:Int)≠0;decide⟩,⟨J.JP,J.fd,J.st,J.left,J.hd,J.VA,J.Wp,J.Ta,J.ok,J.b⟩⟩;unfold BL DJ BI;simp only[K,za,Ah,hk,zR];rfl
  | false=>
   cases G:r.Kb with
   |true=>
    refine⟨{r with Af:=4},[US],⟨D,λF p C=>?_⟩,.inr (.inr ⟨rfl,rfl,I.ok (by rw[h0];decide)⟩),⟨I.JP,I.fd,.inr (.inr (.inr (.inr rfl))),I.left,λh=>by rcases h with h|h<;>exact absurd (show(4:Int)=_ from h) (by decide),λh=>absurd (show(4:Int)=_ from h) (by decide),λh=>absurd (show(4:Int)=_ from h) (by decide),λ_ _=>hg,λh=>absurd rfl h,I.b⟩⟩;unfold BL DJ;simp only[K,za,Ah,hk,AV,G];rw[show L1 200 (p.length+([(⟨4,⟨[],[],0,0,0,0,[],[],0,0,⟨0,0⟩,[],[]⟩,0,[]⟩:AS)]).length)=true from WH om,BR];rfl
   |false=>
    refine⟨{r with Kb:=true},[],⟨D,λF p C=>?_⟩,.inl ⟨rfl,by show r.Af≠1;omega,λh=>absurd (show r.Af=4 from h) om⟩,⟨I.JP,I.fd,I.st,I.left,I.hd,I.VA,I.Wp,I.Ta,I.ok,I.b⟩⟩;unfold BL DJ;simp only[K,za,Ah,hk,AV,G,zR]
 | false=>
  cases G:r.Kb with
  |true=>
   refine⟨LJ r 2 r.at_,[],⟨D,λF p C=>?_⟩,N4 (by decide) _,Km I _ _⟩;unfold BL;simp only[K,za,AV,G,Ah,zR];rw[<-G];rfl
  | false=>
   obtain⟨h,e,C,N⟩:=ZG U;by_cases he:e=0
   ·have S:=N he;subst he;obtain⟨x14,X⟩:∃x14,(Ag (h.Kind==120) (some true) (Ag (h.Kind==103) (some true) (Ag (h.Kind==76) (some true) (some (h.Kind==75)))):Option Bool)=some x14:=by
     cases(h.Kind==120)<;>cases(h.Kind==103)<;>cases(h.Kind==76)<;>exact⟨_,rfl⟩
    cases x14 with
    |true=>
     obtain⟨t,t1,t2,t3,t4⟩:=jJ hc I h0 S;refine⟨t,[],⟨t1,λF p P=>?_⟩,t3,t4⟩;have k:=t2 F;simp only[G]at k;unfold BL;simp only[K,za,AV,G,C,show((0:Int) !=0)=false from rfl,X,Ah,k,zR]
    | false=>
     cases hkd:((decide (h.Kind<48))||(decide (h.Kind>55)))with
     |true=>
      refine⟨LJ r 5 r.at_,[],⟨D,λF p P=>?_⟩,N4 (by decide) _,Km I _ _⟩;unfold BL;simp only[K,za,AV,G,C,show((0:Int) !=0)=false from rfl,X,hkd,Ah,zR];rw[<-G];rfl
     |false=>
      obtain⟨t,l,t1,t2,t3,t4⟩:=gv hc I h0 hg S;refine⟨t,l,⟨t1,λF p P=>?_⟩,t3,t4⟩;have k:=t2 F p P;simp only[G]at k;unfold BL;simp only[K,za,AV,G,C,show((0:Int) !=0)=false from rfl,X,hkd,k]
   ·refine⟨LJ r e r.at_,[],⟨D,λF p P=>?_⟩,N4 he _,Km I _ _⟩;unfold BL;simp only[K,za,AV,G,C,show(e !=0)=true from bne_iff_ne.2 he,Ah,zR];rw[<-G];rfl
theorem Ys{c:Bb}(hc:Kd c):O8 c (KB c):=by
 intro r I h2 hl0;have D:=I.fd;obtain⟨g1,g2,g3⟩:=I.Wp h2;have b:=I.b;have Z:=I.ok (by rw[h2];decide);have hgl:r.A9.length<=65536:=by omega
 have bfail:∀(u:Rd),u.DI=c->u.Al=SP->0<=u.Ao->u.Ao<=1099511627776->KB c u.BV u.B6->∀e w,Inv c (KB c) (LJ u e w):=λu u1 u2 u3 u4 u5 e w=>
  ⟨u1,u2,.inr (.inr (.inr (.inr rfl))),⟨u3,u4⟩,λh=>by rcases h with h|h<;>exact absurd (show(4:Int)=_ from h) (by decide),λh=>absurd (show(4:Int)=_ from h) (by decide),λh=>absurd (show(4:Int)=_ from h) (by decide),λ_ _=>rfl,λh=>absurd rfl h,u5⟩
 have hL:=I.left;by_cases k76:r.Bg.Kind=76
 ·have hcap:(r.A9.length:Int)<=c.Name+1:=by rw[k76]at g3;simp at g3;omega
  obtain⟨t,T,htl⟩:=R2 (s:=r.A9) om;have b':KB c {r.BV with Gm:=t,Dg:=true} r.B6:=⟨b.ll,b.ls,b.lm,b.gl,b.gs,b.gm,by show(t.length:Int)<=_;omega,b.lk⟩;cases H:(decide ((t.length:Int)>r.DI.Name)||decide ((r.BV.HR.length:Int)>r.DI.Name))with
  |true=>
   refine⟨LJ {r with BV:={r.BV with Gm:=t,Dg:=true}} 7 r.IW,⟨D,λF=>?_⟩,rfl,.inl ⟨rfl,by show(7:Int)≠0;decide,bfail {r with BV:={r.BV with Gm:=t,Dg:=true}} I.JP D hL.1 hL.2 b' _ _⟩⟩;unfold Br;simp only[k76,zQ,Ah,T,za,H];rfl
  |false=>
   refine⟨{r with A9:=[],BV:={r.BV with Gm:=t,Dg:=true}},⟨D,λF=>?_⟩,rfl,.inr ⟨h2,rfl,Z,I.JP,b'⟩⟩;unfold Br;simp only[k76,zQ,Ah,T,za,H,AV]
 by_cases k75:r.Bg.Kind=75
 ·have hcap:(r.A9.length:Int)<=c.Name+1:=by rw[k75]at g3;simp at g3;omega
  obtain⟨t,T,htl⟩:=R2 (s:=r.A9) om;have b':KB c {r.BV with HR:=t,EU:=true} r.B6:=⟨b.ll,b.ls,b.lm,b.gl,b.gs,b.gm,b.nm,by show(t.length:Int)<=_;omega⟩;cases H:(decide ((r.BV.Gm.length:Int)>r.DI.Name)||decide ((t.length:Int)>r.DI.Name))with
  |true=>
   refine⟨LJ {r with BV:={r.BV with HR:=t,EU:=true}} 7 r.IW,⟨D,λF=>?_⟩,rfl,.inl ⟨rfl,by show(7:Int)≠0;decide,bfail {r with BV:={r.BV with HR:=t,EU:=true}} I.JP D hL.1 hL.2 b' _ _⟩⟩;unfold Br;simp only[k75,show(((75:Int)==76)=false) from rfl,zQ,Ah,AV,T,za,H];rfl
  |false=>
   refine⟨{r with A9:=[],BV:={r.BV with HR:=t,EU:=true}},⟨D,λF=>?_⟩,rfl,.inr ⟨h2,rfl,Z,I.JP,b'⟩⟩;unfold Br;simp only[k75,show(((75:Int)==76)=false) from rfl,zQ,Ah,T,za,H,AV]
 have hcap:(r.A9.length:Int)<=c.Head:=by
  rw[show(r.Bg.Kind==76)=false from beq_eq_false_iff_ne.2 k76,show(r.Bg.Kind==75)=false from beq_eq_false_iff_ne.2 k75]at g3;simp at g3;omega
 have fin:∃t,t.Al=SP/\(∀F:Fd,Bo {r with Al:=F,A9:=[]} r.A9=some ({t with Al:=F},t.A9))/\t.Bg=r.Bg/\((t.Af=4/\t.Dl≠0/\Inv c (KB c) t)\/(t.Af=2/\t.A9=[]/\t.Dl=0/\t.DI=c/\KB c t.BV t.B6)):=by
  obtain⟨⟨l,e⟩,C,N⟩:=X8 r.A9;simp only at N;by_cases he:e=0
  ·subst he;by_cases k120:r.Bg.Kind=120
   ·have b':KB c {r.BV with CU:=l,ED:=true} r.B6:=⟨N.len,by have:=N.size;show(I5 l:Int)<=_;omega,N.sm,b.gl,b.gs,b.gm,b.nm,b.lk⟩;refine⟨{r with A9:=[],BV:={r.BV with CU:=l,ED:=true}},D,λF=>?_,rfl,.inr ⟨h2,rfl,Z,I.JP,b'⟩⟩;unfold Bo;simp only[C,za,show((0:Int) !=0)=false from rfl,AV,k120,zQ,Ah]
   ·obtain⟨m,hm,m1,m2⟩:=Tz b.gm N.sm b.gl N.len;obtain⟨⟨t,f⟩,T,hpq⟩:=UY m2.sm;simp only at hpq;cases H:((f !=0)||decide ((t.length:Int)>r.DI.Head))with
    |true=>
     refine⟨LJ r 7 r.IW,D,λF=>?_,rfl,.inl ⟨rfl,by show(7:Int)≠0;decide,bfail r I.JP D hL.1 hL.2 b _ _⟩⟩;unfold Bo;simp only[C,za,show((0:Int) !=0)=false from rfl,AV,show(r.Bg.Kind==120)=false from beq_eq_false_iff_ne.2 k120,hm,T,H,Ah];rfl
    |false=>
     simp only[zM,zD,bne_eq_false_iff_eq]at H;obtain⟨p1,p2⟩:=hpq H.1;have S:=H.2;rw[I.JP]at S;have b':KB c r.BV m:=⟨b.ll,b.ls,b.lm,p1,by omega,m2,b.nm,b.lk⟩;refine⟨{r with A9:=[],B6:=m},D,λF=>?_,rfl,.inr ⟨h2,rfl,Z,I.JP,b'⟩⟩;unfold Bo;simp only[C,za,show((0:Int) !=0)=false from rfl,AV,show(r.Bg.Kind==120)=false from beq_eq_false_iff_ne.2 k120,hm,T];rw[show((f !=0)||decide ((t.length:Int)>r.DI.Head))=false by rw[H.1,zm H.2];rfl,AV]
  ·refine⟨LJ r e r.IW,D,λF=>?_,rfl,.inl ⟨rfl,he,bfail r I.JP D hL.1 hL.2 b _ _⟩⟩;unfold Bo;simp only[C,za,show(e !=0)=true from bne_iff_ne.2 he,Ah];rfl
 obtain⟨t,t1,t2,t3,t4⟩:=fin;refine⟨t,⟨t1,λF=>?_⟩,t3,t4⟩;have k:=t2 F;unfold Br;simp only[show(r.Bg.Kind==76)=false from beq_eq_false_iff_ne.2 k76,show(r.Bg.Kind==75)=false from beq_eq_false_iff_ne.2 k75,AV,k,za]
end Go.Av.L
end
