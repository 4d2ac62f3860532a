/-
  Several texts in one.
-/
import Derived.Test.YthhonebaoidfgaaGreatDoorBkA
import Derived.Test.YthhonebaoidfgaaGreatDoorBkM
set_option linter.unusedSimpArgs false
/-
 A part.
-/
section
namespace Go.Av.L
open Go.Av Go.Lib
set_option linter.unusedVariables false
set_option linter.unusedSimpArgs false
set_option maxRecDepth 10000
theorem Sx(s:List UInt8)(most:Nat)(hm:most<=1000):∃v b,EC s (most:Int)=some (v,b)/\(b=true->1<=s.length):=by
 by_cases h:s.length<=1000
 ·refine⟨(Nk s most).1,(Nk s most).2,P2 s most h,λD=>?_⟩;unfold Nk at D;by_cases h0:s.length=0\/s.length>most
  ·rw[zl h0]at D;exact absurd D (by decide)
  ·omega
 ·refine⟨0,false,?_,λh=>by cases h⟩;unfold EC;rw[zg (show(s.length:Int)>(most:Int) by omega),xl,Ah]
theorem Zk(s:List UInt8):(To s).1.length<=s.length:=by
 cases s with
 |nil=>exact zw _
 |cons c t=>
  show(if c=45 then(t,true)else(c::t,false)).1.length<=_;split
  ·exact Nat.le_succ _
  ·exact zw _
theorem Z1(s:List UInt8)(C:s.length<=1000000):∃t e,Dj s=some (t,e):=by
 have key:W (Dj s) λ_=>True:=by
  unfold Dj;have E:=Zk s;refine Aq (CJ (Yw s) ?_);generalize To s=x at E;obtain⟨x1,x2⟩:=x;simp only at E;refine E5 (zg om) ?_;obtain⟨v,b,h1,_⟩:=Sx (Lib.cut x1 [46]).1 16 om;refine Aq (CJ h1 (Bc (λ_=>Ae trivial) λ_=>Aq ?_));refine W.mono (Q:=λ_=>True) (Bc (λhc=>?_) λ_=>Ae trivial) λo _=>?_
  ·obtain⟨v2,b2,h2,K⟩:=Sx (Lib.cut x1 [46]).2.1 40 om;have hcl:=Ye (s:=x1) (t:=[46]) rfl hc;refine Aq (CJ h2 (Bc (λ_=>Ae trivial) λD=>?_));have hb':b2=true:=by simpa using D
   have H:=K hb';refine E5 (zg (by simp;omega)) (Aq (CJ (Hp (i:=9) (by simp;omega)) (Aq ?_)));obtain⟨v3,b3,U,_⟩:=Sx (((Lib.cut x1 [46]).2.1++([48,48,48,48,48,48,48,48]:List UInt8)).take 9) 9 om;exact CJ U (Ae trivial)
  ·rcases o with y|y
   ·refine Aq ?_;have hz:∃z,(Ag x2 ((Dm (⟨v,y⟩:Ax)).bind λx14=>some (x14.DR,x14.CE)) (some (v,y)))=some z:=by
     cases x2 with
     |false=>exact⟨_,rfl⟩
     |true=>
      unfold Dm;cases(({DR:=v,CE:=y}:Ax).CE==0)<;>exact⟨_,rfl⟩
    obtain⟨⟨a,b⟩,hz⟩:=hz;refine CJ hz ?_;unfold D6;exact Aq (Ae (Bc (λ_=>Ae trivial) λ_=>Ae trivial))
   ·exact Ae trivial
 obtain⟨⟨t,e⟩,h,_⟩:=key;exact⟨t,e,h⟩
noncomputable def tS(s:List UInt8):Int×Int×Int:=match Dj s with|some (t,e)=>(t.DR,t.CE,e)|none=>(0,0,2)
theorem kE{s:List UInt8}(C:s.length<=1000000):Dj s=some (⟨(tS s).1,(tS s).2.1⟩,(tS s).2.2):=by
 obtain⟨t,e,h⟩:=Z1 s C;unfold tS;rw[h]
def Pm(e:Int)(m:Mem)(n:Int):(Mem×Int)⊕Int:=if e=0 then .inl (m,n)else .inr e
noncomputable def dr(m:Mem)(n:Int)(p:Pr):(Mem×Int)⊕Int:=
 if p.Key=Rk then Pm (Kg p.Value).2 {m with Cy:=(Kg p.Value).1} n
 else if p.Key=Ru then Pm (Kg p.Value).2 {m with Cq:=(Kg p.Value).1} n
 else if p.Key=Nx then Pm (Kg p.Value).2 m (Kg p.Value).1
 else if p.Key=Kt then Pm (if RJ p.Value=true then 2 else 0) {m with A7:=p.Value} n
 else if p.Key=MZ then Pm (if RJ p.Value=true then 2 else 0) {m with A6:=p.Value} n
 else if p.Key=NF then Pm (if RJ p.Value=true then 2 else 0) {m with Name:=p.Value} n
 else if p.Key=Ng then Pm (if RJ p.Value=true then 2 else 0) {m with BG:=p.Value} n
 else if p.Key=NJ then Pm (tS p.Value).2.2 {m with Time:=⟨(tS p.Value).1,(tS p.Value).2.1⟩} n
 else .inl ({m with Extra:=m.Extra++[p]},n)
def ZT(m:Mem)(n:Int)(i:Nat):(List AB)×Int×(List UInt8)×(List UInt8)×Int×Int×Int×Int×(List UInt8)×(List UInt8)×Int×Int×Int×Int×(List UInt8)×Int:=
 (m.Extra,n,m.Name,m.BG,m.Kind,m.Mode,m.Cq,m.Cy,m.A6,m.A7,m.BY,m.Bi,m.Time.DR,m.Time.CE,m.Data,(i:Int))
theorem eN{e:Int}{m:Mem}{n:Int}(h:e=0):Pm e m n=.inl (m,n):=zl h
theorem gA{e:Int}{m:Mem}{n:Int}(h:¬e=0):Pm e m n=.inr e:=zj h
theorem kP{l:List Pr}{i:Nat}(hi:i<l.length)(E:l.length<=1000)(O:l[i].Value.length<=1000000){m:Mem}{n:Int}(hx:m.Extra.length<=i):
  (∀m' n',dr m n l[i]=.inl (m',n')->EW l (ZT m n i)=some (.inl (ZT m' n' (i+1))))/\
  (∀e,dr m n l[i]=.inr e->∃t,EW l (ZT m n i)=some (.inr (.inr t))/\t.2.2.2.2.2.2.2.2.2.2.2.2.2.2.2=((0:Int),e)):=by
 have t2:=kE O;unfold EW ZT dr;simp only[];rw[zg (show(i:Int)<(l.length:Int) by omega),Ah,Fe hi,za];generalize l[i]=p at O t2;obtain⟨k,v⟩:=p;simp only at O t2⊢;by_cases h1:k=Rk
 ·subst h1;rw[zl rfl,show(Rk==([103,105,100]:List UInt8))=true from rfl,Ah,k9,za];unfold WN;by_cases h0:(Kg v).2=0
  ·rw[zl h0,eN h0];refine⟨λm' n' e=>?_,λe he=>by cases he⟩;cases e;rw[<-IK om];rfl
  ·rw[zj h0,gA h0];refine⟨λm' n' e=>(by cases e),λe he=>?_⟩;cases he;simp only[];rw[bne_iff_ne.2 h0,Ah];exact⟨_,rfl,rfl⟩
 rw[zj h1,show(k==([103,105,100]:List UInt8))=false from beq_eq_false_iff_ne.2 h1,AV];by_cases h2:k=Ru
 ·subst h2;rw[zl rfl,show(Ru==([117,105,100]:List UInt8))=true from rfl,Ah,lq,za];unfold WN;by_cases h0:(Kg v).2=0
  ·rw[zl h0,eN h0];refine⟨λm' n' e=>?_,λe he=>by cases he⟩;cases e;rw[<-IK om];rfl
  ·rw[zj h0,gA h0];refine⟨λm' n' e=>(by cases e),λe he=>?_⟩;cases he;simp only[];rw[bne_iff_ne.2 h0,Ah];exact⟨_,rfl,rfl⟩
 rw[zj h2,show(k==([117,105,100]:List UInt8))=false from beq_eq_false_iff_ne.2 h2,AV];by_cases K:k=Nx
 ·subst K;rw[zl rfl,show(Nx==([115,105,122,101]:List UInt8))=true from rfl,Ah,lp,za];unfold WN;by_cases h0:(Kg v).2=0
  ·rw[zl h0,eN h0];refine⟨λm' n' e=>?_,λe he=>by cases he⟩;cases e;rw[<-IK om];rfl
  ·rw[zj h0,gA h0];refine⟨λm' n' e=>(by cases e),λe he=>?_⟩;cases he;simp only[];rw[bne_iff_ne.2 h0,Ah];exact⟨_,rfl,rfl⟩
 rw[zj K,show(k==([115,105,122,101]:List UInt8))=false from beq_eq_false_iff_ne.2 K,AV];by_cases H:k=Kt
 ·subst H;rw[zl rfl,show(Kt==([103,110,97,109,101]:List UInt8))=true from rfl,Ah,iJ,za];unfold TO;cases RJ v with
  |false=>
   refine⟨λm' n' e=>?_,λe he=>by cases he⟩;cases e;rw[<-IK om];rfl
  |true=>
   refine⟨λm' n' e=>(by cases e),λe he=>?_⟩;cases he;exact⟨_,rfl,rfl⟩
 rw[zj H,show(k==([103,110,97,109,101]:List UInt8))=false from beq_eq_false_iff_ne.2 H,AV];by_cases U:k=MZ
 ·subst U;rw[zl rfl,show(MZ==([117,110,97,109,101]:List UInt8))=true from rfl,Ah,iW,za];unfold TO;cases RJ v with
  |false=>
   refine⟨λm' n' e=>?_,λe he=>by cases he⟩;cases e;rw[<-IK om];rfl
  |true=>
   refine⟨λm' n' e=>(by cases e),λe he=>?_⟩;cases he;exact⟨_,rfl,rfl⟩
 rw[zj U,show(k==([117,110,97,109,101]:List UInt8))=false from beq_eq_false_iff_ne.2 U,AV];by_cases h6:k=NF
 ·subst h6;rw[zl rfl,show(NF==([112,97,116,104]:List UInt8))=true from rfl,Ah,iR,za];unfold TO;cases RJ v with
  |false=>
   refine⟨λm' n' e=>?_,λe he=>by cases he⟩;cases e;rw[<-IK om];rfl
  |true=>
   refine⟨λm' n' e=>(by cases e),λe he=>?_⟩;cases he;exact⟨_,rfl,rfl⟩
 rw[zj h6,show(k==([112,97,116,104]:List UInt8))=false from beq_eq_false_iff_ne.2 h6,AV];by_cases h7:k=Ng
 ·subst h7;rw[zl rfl,show(Ng==([108,105,110,107,112,97,116,104]:List UInt8))=true from rfl,Ah,iv,za];unfold TO;cases RJ v with
  |false=>
   refine⟨λm' n' e=>?_,λe he=>by cases he⟩;cases e;rw[<-IK om];rfl
  |true=>
   refine⟨λm' n' e=>(by cases e),λe he=>?_⟩;cases he;exact⟨_,rfl,rfl⟩
 rw[zj h7,show(k==([108,105,110,107,112,97,116,104]:List UInt8))=false from beq_eq_false_iff_ne.2 h7,AV];by_cases h8:k=NJ
 ·subst h8;rw[zl rfl,show(NJ==([109,116,105,109,101]:List UInt8))=true from rfl,Ah];unfold GF;rw[t2,za];by_cases h0:(tS v).2.2=0
  ·rw[eN h0];refine⟨λm' n' e=>?_,λe he=>by cases he⟩;cases e;rw[<-IK om];simp only[];rw[h0];rfl
  ·rw[gA h0];refine⟨λm' n' e=>(by cases e),λe he=>?_⟩;cases he;simp only[];rw[show((tS v).2.2==0)=false from beq_eq_false_iff_ne.2 h0,AV,za,za];simp only[];rw[bne_iff_ne.2 h0,Ah];exact⟨_,rfl,rfl⟩
 rw[zj h8,show(k==([109,116,105,109,101]:List UInt8))=false from beq_eq_false_iff_ne.2 h8,AV];refine⟨λm' n' e=>?_,λe he=>by cases he⟩;cases e;rw[show L1 32 (m.Extra.length+([(⟨k,v⟩:AB)]:List AB).length)=true from JH (by simp;omega) (by simp;omega),BR,<-IK om];rfl
structure AI(i:Nat)(m:Mem)(n:Int):Prop where
 ex:m.Extra.length<=i
 nn:0<=n
 nm:m.Name.length<=900000
 lk:m.BG.length<=900000
 un:m.A6.length<=900000
 gn:m.A7.length<=900000
 dt:m.Data=[]
 xs:ZU m.Extra
theorem cw(s:List UInt8):0<=(Kg s).1:=by
 unfold Kg;split
 ·exact xr _
 split
 ·split
  ·exact xr _
  ·exact Int.natCast_nonneg _
 ·exact xr _
theorem iS{i:Nat}{m m':Mem}{n n':Int}{p:Pr}(h:AI i m n)(Y:bare p<=900000)(C:dr m n p=.inl (m',n')):AI (i+1) m' n':=by
 have O:p.Value.length<=900000:=by unfold bare at Y;omega
 have res:∀{e:Int} {x:Mem} {k:Int},Pm e x k=.inl (m',n')->x=m'/\k=n':=by
  intro e x k J;unfold Pm at J;split at J
  ·cases J;exact⟨rfl,rfl⟩
  ·cases J
 unfold dr at C;have hi:=h.ex;split at C
 ·obtain⟨rfl,rfl⟩:=res C;exact⟨yw hi,h.nn,h.nm,h.lk,h.un,h.gn,h.dt,h.xs⟩
 split at C
 ·obtain⟨rfl,rfl⟩:=res C;exact⟨yw hi,h.nn,h.nm,h.lk,h.un,h.gn,h.dt,h.xs⟩
 split at C
 ·obtain⟨rfl,rfl⟩:=res C;exact⟨yw hi,cw _,h.nm,h.lk,h.un,h.gn,h.dt,h.xs⟩
 split at C
 ·obtain⟨rfl,rfl⟩:=res C;exact⟨yw hi,h.nn,h.nm,h.lk,h.un,O,h.dt,h.xs⟩
 split at C
 ·obtain⟨rfl,rfl⟩:=res C;exact⟨yw hi,h.nn,h.nm,h.lk,O,h.gn,h.dt,h.xs⟩
 split at C
 ·obtain⟨rfl,rfl⟩:=res C;exact⟨yw hi,h.nn,O,h.lk,h.un,h.gn,h.dt,h.xs⟩
 split at C
 ·obtain⟨rfl,rfl⟩:=res C;exact⟨yw hi,h.nn,h.nm,O,h.un,h.gn,h.dt,h.xs⟩
 split at C
 ·obtain⟨rfl,rfl⟩:=res C;exact⟨yw hi,h.nn,h.nm,h.lk,h.un,h.gn,h.dt,h.xs⟩
 ·cases C;refine⟨by show(m.Extra++[p]).length<=_;rw[zi,qf];omega,h.nn,h.nm,h.lk,h.un,h.gn,h.dt,λq R=>?_⟩;rcases zu.1 R with R|R
  ·exact h.xs q R
  ·rw[zU.1 R];exact Y
theorem fv{m:Mem}{n:Int}{p:Pr}{e:Int}(C:dr m n p=.inr e):e≠0:=by
 have res:∀{d:Int} {x:Mem} {k:Int},Pm d x k=.inr e->e≠0:=by
  intro d x k J;unfold Pm at J;split at J
  ·cases J
  ·rename_i h;cases J;exact h
 unfold dr at C
 repeat' (split at C;exact res C)
 cases C
theorem Xn{l:List Pr}(E:l.length<=1000)(hm:ZU l):∀(k i:Nat) (m:Mem) (n:Int),i+k=l.length->AI i m n->
  W (loop (EW l) (ZT m n i)) λr=>match r with
   | .inl t=>∃m' n',AI l.length m' n'/\t=(m'.Extra,n',m'.Name,m'.BG,m'.Kind,m'.Mode,m'.Cq,m'.Cy,m'.A6,m'.A7,m'.BY,m'.Bi,m'.Time.DR,m'.Time.CE,m'.Data)
   | .inr t=>t.2.2.2.2.2.2.2.2.2.2.2.2.2.2.2.2≠0:=by
 intro k
 induction k with
 |zero=>
  intro i m n hi h;refine⟨.inl (m.Extra,n,m.Name,m.BG,m.Kind,m.Mode,m.Cq,m.Cy,m.A6,m.A7,m.BY,m.Bi,m.Time.DR,m.Time.CE,m.Data),Cl ?_,m,n,by rw[show l.length=i by omega];exact h,rfl⟩;unfold EW ZT;simp only[];rw[zm (show ¬(i:Int)<(l.length:Int) by omega),AV]
 | succ k ih=>
  intro i m n hi h;have N:i<l.length:=by omega
  have D:=hm _ (zP N);obtain⟨h1,h2⟩:=kP N E (m:=m) (n:=n) (by unfold bare at D;omega) h.ex;cases C:dr m n l[i]with
  |inl t=>
   obtain⟨m',n'⟩:=t;rw[Cm (h1 m' n' C)];exact ih (i+1) m' n' om (iS h D C)
  |inr e=>
   obtain⟨t,ht,he⟩:=h2 e C;refine⟨.inr t,Cl ht,?_⟩;show t.2.2.2.2.2.2.2.2.2.2.2.2.2.2.2.2≠0;rw[he];exact fv C
theorem Zn{l:List Pr}(E:l.length<=1000)(hm:ZU l){h:AO}(C:0<=h.B9)(h1:h.Name.length<=900000)(h2:h.BG.length<=900000)(K:h.A6.length<=900000)(H:h.A7.length<=900000):
  W (H5 h l) λr=>r.2.2=0->AI 1000 r.1 r.2.1:=by
 unfold H5;refine Aq ((Xn E hm l.length 0 ⟨h.Name,h.BG,h.Kind,h.Mode,h.Cq,h.Cy,h.A6,h.A7,h.BY,h.Bi,⟨h.Time,0⟩,[],[]⟩ h.B9 om ⟨zw _,C,h1,h2,K,H,rfl,λp Y=>absurd Y yb⟩).mono ?_);rintro(t|t) R
 ·obtain⟨m',n',S,rfl⟩:=R;exact Ae λ_=>⟨z8 S.ex E,S.nn,S.nm,S.lk,S.un,S.gn,S.dt,S.xs⟩
 ·exact Ae λh=>absurd h R
end Go.Av.L
end
/-
 A part.
-/
section
namespace Go.Av.L
open Go.Av Go.Lib
set_option linter.unusedVariables false
set_option linter.unusedSimpArgs false
set_option maxRecDepth 10000
theorem jZ{s:List UInt8}(h:s.all PE=true):(46:UInt8)∉s:=λhm=>by
 rw[zr]at h;exact absurd (h _ hm) (by decide)
theorem ZL{s:List UInt8}(h:s.all PE=true)(h1:1<=s.length)(t:List UInt8):To (s++t)=(s++t,false):=by
 cases s with
 |nil=>simp at h1
 |cons c s=>
  have hc:c≠45:=λe=>by subst e;rw[ya,zf]at h;exact absurd h.1 (by decide)
  show(if c=45 then(s++t,true)else(c::(s++t),false))=_;rw[zj hc];rfl
def kB(sec ns:Nat)(body:List UInt8):Prop:=(ns=0/\body=decDigits sec)\/(0<ns/\∃pt k,body=decDigits sec++46::pt/\(decDigits (1000000000+ns)).drop 1=pt++List.replicate k 48)
def dS(sign:Bool)(sec ns:Nat):Option (Ax×Int):=
 (Ag sign ((Dm (⟨(sec:Int),(ns:Int)⟩:Ax)).bind λx14=>some (x14.DR,x14.CE)) (some ((sec:Int),(ns:Int))):Option ((Int×Int))).bind λ(x12,x13)=>(D6 (⟨x12,x13⟩:Ax)).bind λx15=>Ag (!x15) (some ((⟨(0:Int),(0:Int)⟩:Ax),(6:Int))) (some ((⟨x12,x13⟩:Ax),(0:Int)))
theorem Wq{sign:Bool}{sec ns:Nat}{body:List UInt8}(h1:sec<=9007199254740991)(h2:ns<1000000000)(D:kB sec ns body):Dj ((bif sign then[45]else[])++body)=dS sign sec ns:=by
 obtain⟨f1,f2,f3⟩:=QI sec;have E:=JV 16 sec om (by rw[show 10^16=10000000000000000 from rfl];omega);have hm:To ((bif sign then[45]else[])++body)=(body,sign):=by
  have e:∃t,body=decDigits sec++t:=by
   rcases D with⟨_,e⟩|⟨_,pt,k,e,_⟩
   ·exact⟨[],by rw[e,zR]⟩
   ·exact⟨_,e⟩
  obtain⟨t,rfl⟩:=e;cases sign with
  |true=>rfl
  |false=>exact ZL f1 f3 t
 have Z:Nk (decDigits sec) 16=((sec:Int),true):=by
  unfold Nk;rw[zj om,zl f1,zB om,f2]
 unfold Dj;rw[Yw,hm,za];dsimp only;rcases D with⟨rfl,rfl⟩|⟨h0,pt,k,rfl,hk⟩
 ·rw[zg om,BR,lg (jZ f1)];dsimp only;rw[show(16:Int)=((16:Nat):Int) from rfl,P2 _ _ om,Z,za];dsimp only;rw[yg,AV,AV,za];rfl
 ·obtain⟨r,J,r1,r2,r3⟩:=ZB h2;rw[J,qn,yn]at hk;subst hk;rw[zi,zW]at r1;rw[qe,zf]at r2;have hp1:1<=pt.length:=by
   rcases qa pt.length with e|e
   ·have:pt=[]:=zx e;subst this;have:=SV [] k;rw[this]at r3;simp[I7]at r3;omega
   ·exact e
  rw[zg (by rw[zi,zG];omega),BR,jh (jZ f1)];dsimp only;rw[show(16:Int)=((16:Nat):Int) from rfl,P2 _ _ om,Z,za];dsimp only;rw[yg,AV,Ah,show(40:Int)=((40:Nat):Int) from rfl,P2 _ _ om];have hd40:Nk pt 40=((I7 (pt.take 16):Int),true):=by unfold Nk;rw[zj om,zl r2.1]
  rw[hd40,za];dsimp only;rw[yg,AV,zg (by simp;omega),BR,show(9:Int)=((9:Nat):Int) from rfl,Hp (by simp;omega),za];have e9:(pt++([48,48,48,48,48,48,48,48]:List UInt8)).take 9=pt++List.replicate k 48:=by
   rw[show([48,48,48,48,48,48,48,48]:List UInt8)=List.replicate 8 48 from rfl,List.take_append,zB om,List.take_replicate];congr 2;omega
  rw[e9,P2 _ _ (by rw[zi,zW];omega)];have hd9:Nk (pt++List.replicate k 48) 9=((ns:Int),true):=by
   unfold Nk;rw[zj (by rw[zi,zW];omega),zl (by rw[qe,r2.1,r2.2];rfl),zB (by rw[zi,zW];omega),r3]
  rw[hd9,za];dsimp only;rw[za];rfl
theorem eX{t:Ax}(h:Sb t):W (Gw t) λr=>r.2=0/\1<=r.1.length/\r.1.length<=60/\Dj r.1=some (t,0):=by
 have J:=dw h;obtain⟨h1,h2,K,H⟩:=h;unfold Gw;rw[J,za,yg,AV];obtain⟨sec,ns,sign,P,T,hmid,M⟩:∃(sec ns:Nat) (sign:Bool),sec<=9007199254740991/\ns<1000000000/\
   (Ag (decide (t.DR<0)) ((Dm t).bind λx5=>some (x5.DR,x5.CE,([45]:List UInt8))) (some (t.DR,t.CE,([]:List UInt8))):Option ((Int×Int×(List UInt8))))=some ((sec:Int),(ns:Int),bif sign then[45]else[])/\dS sign sec ns=some (t,0):=by
  by_cases C:t.DR<0
  ·by_cases hn:t.CE=0
   ·refine⟨(-t.DR).toNat,0,true,by omega,by omega,?_,?_⟩
    ·rw[zg C,Ah];unfold Dm;rw[show(t.CE==0)=true from by rw[hn];rfl,Ah,za,Ek om om];simp only[zL];rw[show(0:Int) - t.DR=(((-t.DR).toNat:Nat):Int) by omega];rfl
    ·unfold dS Dm;rw[Ah,show((((0:Nat):Int))==0)=true from rfl,Ah,za,za];dsimp only;rw[Ek om om,show(0:Int) - (((-t.DR).toNat:Nat):Int)=t.DR by omega,show(⟨t.DR,0⟩:Ax)=t from by rw[<-hn],J];rfl
   ·refine⟨(-t.DR - 1).toNat,(1000000000 - t.CE).toNat,true,by omega,by omega,?_,?_⟩
    ·rw[zg C,Ah];unfold Dm;rw[show(t.CE==0)=false from beq_eq_false_iff_ne.2 hn,AV,za,Ek (x:=0 - t.DR) om om,Ek om om,Ek om om];simp only[zL];have e1:(0:Int) - t.DR - 1=(((-t.DR - 1).toNat:Nat):Int):=by omega
     have e2:(1000000000:Int) - t.CE=(((1000000000 - t.CE).toNat:Nat):Int):=by omega
     rw[<-e1,<-e2]
    ·unfold dS Dm;rw[Ah];dsimp only;rw[show((((1000000000 - t.CE).toNat:Nat):Int)==0)=false from by rw[yu];omega,AV,za,za,Ek (x:=0 - (((-t.DR - 1).toNat:Nat):Int)) om om,Ek om om,Ek om om];dsimp only;rw[show(0:Int) - (((-t.DR - 1).toNat:Nat):Int) - 1=t.DR by omega,show(1000000000:Int) - (((1000000000 - t.CE).toNat:Nat):Int)=t.CE by omega,show(⟨t.DR,t.CE⟩:Ax)=t from rfl,J];rfl
  ·refine⟨t.DR.toNat,t.CE.toNat,false,by omega,by omega,?_,?_⟩
   ·rw[zm C,AV];simp only[yO];rw[show t.DR=((t.DR.toNat:Nat):Int) by omega,show t.CE=((t.CE.toNat:Nat):Int) by omega];simp
   ·unfold dS;rw[AV,za];dsimp only;rw[show((t.DR.toNat:Nat):Int)=t.DR by omega,show((t.CE.toNat:Nat):Int)=t.CE by omega,show(⟨t.DR,t.CE⟩:Ax)=t from rfl,J];rfl
 obtain⟨f1,f2,f3⟩:=QI sec;have E:=JV 16 sec om (by rw[show 10^16=10000000000000000 from rfl];omega);have hsl:(bif sign then([45]:List UInt8)else[]).length<=1:=by cases sign<;>simp
 rw[hmid,za];dsimp only;have hit:Lib.itoa (sec:Int)=decDigits sec:=by rw[PH om,zS]
 rw[zg om,BR,hit,zg om,BR];by_cases h0:ns=0
 ·subst h0;rw[show((((0:Nat):Int))==0)=true from rfl,Ah];refine Ae ⟨rfl,by rw[zi];omega,by rw[zi];omega,?_⟩;rw[Wq P T (.inl ⟨rfl,rfl⟩),M]
 ·rw[show((ns:Int)==0)=false from by rw[yu];omega,AV];have hw:IntKind.i64.wrap ((1000000000:Int)+(ns:Int))=((1000000000+ns:Nat):Int):=by rw[Ek om om];omega
  obtain⟨r,X,r1,r2,r3⟩:=ZB T;have hit2:Lib.itoa ((1000000000+ns:Nat):Int)=decDigits (1000000000+ns):=by rw[PH om,zS]
  rw[hw,zg om,BR,hit2,X,show(1:Int)=((1:Nat):Int) from rfl,LH (by simp),za,qn,yn];rw[zg (by simp only[zi,zG,zY];omega),BR];refine Aq ((eM r om).mono λpt hpt=>?_);obtain⟨k,hk⟩:=hpt;have hptl:pt.length<=9:=by have:=congrArg List.length hk;rw[zi]at this;omega
  rw[zg (by simp only[zi,zG,zY];omega),BR];refine Ae ⟨rfl,by simp only[zi,zG];omega,by simp only[zi,zG,zY];omega,?_⟩;dsimp only;rw[zC,zC,show decDigits sec++([46]++pt)=decDigits sec++46::pt from rfl,Wq P T (.inr ⟨by omega,pt,k,rfl,by rw[X];exact hk⟩),M]
end Go.Av.L
end
/-
 A part.
-/
section
namespace Go.Av.L
open Go.Av Go.Lib
set_option linter.unusedVariables false
set_option linter.unusedSimpArgs false
section
variable {c:Bb} {B:Ba->List AB->Prop}
theorem du(HB:Rs c B)(HK:O8 c B){r:Rd}{F:Fd}{x:Td}{gl:Int}(p:List Ev)(V:Y4 F)(hw:F.cs.flatten.length<=70000)(I:Inv c B r)(G:GI r x gl)(Y:p.length<=900000000):
    ∃F' r' KH,CW {r with Al:=F} p=some ({r' with Al:=F'},F',F'.BC,r'.A9,p++KH)/\gI c B r x gl p F.cs.flatten F' r' KH:=by
  obtain⟨F',r',KH,q1,q2⟩:=Zo HB HK _ r F x gl p (zw _) V hw I G (by
    have:Iu r<=3:=by unfold Iu;split<;>(first|omega|(split<;>(first|omega|(split<;>omega))))
    omega)
  refine⟨F',r',KH,?_,q2⟩;unfold CW;rw[show loop AZ (_,p,_)=_ from q1];rfl
structure kR(c:Bb)(B:Ba->List AB->Prop)(r:Rd)(x:Td)(gl:Int)(w:List UInt8)(F':Fd)(r':Rd)(KH:List Ev):Prop where
 fd:Y4 F'
 emp:F'.cs.flatten=[]
 run:I3 RN (r,x) w (r',KK x KH)
 inv:Inv c B r'
 gi:∃gl',GI r' (KK x KH) gl'/\MR (x,gl) KH=some (KK x KH,gl')
 len:KH.length<=3*w.length+2
theorem WK{r:Rd}{F:Fd}(H:r.Af=4)(w:List UInt8):BZ {r with Al:=F} w=some ([],r.Dl,{r with Al:=F},F,F.BC,r.A9):=by
 unfold BZ;have:Bs ({r with Al:=F},[],w)=some (.inr ({r with Al:=F},[])):=by
  unfold Bs;simp only[H,show(((4:Int) !=4)=false) from rfl,xB,AV]
 rw[Cl this];rfl
theorem iI(HB:Rs c B)(HK:O8 c B){r:Rd}{F:Fd}{x:Td}{gl:Int}{w:List UInt8}(V:Y4 F)(he:F.cs.flatten=[])(I:Inv c B r)(G:GI r x gl)(h0:w≠[])(hw:w.length<=65536):
  ∃F' r' KH,BZ {r with Al:=F} w=some (KH,r'.Dl,{r' with Al:=F'},F',F'.BC,r'.A9)/\kR c B r x gl w F' r' KH:=by
 by_cases H:r.Af=4
 ·exact⟨F,r,[],WK H w,V,he,.over (by show(r.Af==4)=true;rw[H];rfl),I,⟨gl,G,rfl⟩,by simp⟩
 have hwp:0<w.length:=yK.2 h0;obtain⟨F1,e1,o1,f1⟩:=lI V he h0 hw;obtain⟨F2,r',KH,e2,q⟩:=du HB HK (r:=r) (F:=F1) (x:=x) (gl:=gl) [] o1 (by rw[f1];omega) I G (by simp);rw[f1]at q;have hmn:mn (w.length:Int) (65536:Int)=((w.length:Nat):Int):=by unfold mn;rw[zj om]
 have hlen:KH.length<=3*w.length+2:=by
  have:=q.len;have U:bT r<=2:=by unfold bT;split<;>omega
  omega
 have M:∀(F3:Fd),loop Bs ({r' with Al:=F3},KH,[])=some ({r' with Al:=F3},KH):=λF3=>Cl (by
  unfold Bs
  simp only[zY,show(decide (((0:Nat):Int)>0))=false from rfl,qu,AV])
 have step:∃F3,Y4 F3/\F3.cs.flatten=[]/\Bs ({r with Al:=F},[],w)=some (.inl ({r' with Al:=F3},KH,[])):=by
  unfold Bs;have c1:(decide ((w.length:Int)>0)&&(r.Af !=4))=true:=by rw[zg om,bne_iff_ne.2 H];rfl
  simp only[c1,Ah,hmn,fh (zw w.length),eJ (zw w.length),yr,xq,za,e1];rw[show CW _ _=_ from e2];simp only[za,ye];by_cases h:r'.Af=4
  ·obtain⟨F3,e3,o3,f3⟩:=SF q.fd (n:=F2.cs.flatten.length) (by have:=q.fd.ok.fY;omega);refine⟨F3,o3,by rw[f3,xq],?_⟩;have E:Cu F2=some (F2.cs.flatten.length:Int):=by unfold Cu;rw[q.fd.ok.sz]
   rw[show(r'.Af==4)=true by rw[h];rfl,Ah,show Cu _=_ from E];simp only[za];rw[show BH _ _=_ from e3];rfl
  ·refine⟨F2,q.fd,q.emp h,?_⟩;rw[show(r'.Af==4)=false from beq_eq_false_iff_ne.2 h,AV]
 obtain⟨F3,o3,f3,C⟩:=step;refine⟨F3,r',KH,?_,o3,f3,q.run,q.inv,q.gi,hlen⟩;unfold BZ;rw[Cm C,M F3];rfl
def Sn(c:Bb)(B:Ba->List AB->Prop):Prop:=
 ∀k g,B k g->∃a b:Int,Es g=some a/\Es k.CU=some b/\0<=a/\a<=c.Head/\0<=b/\b<=c.Head/\(k.Gm.length:Int)<=c.Name+1/\(k.HR.length:Int)<=c.Name+1
theorem fu(HH:Sn c B)(hc:1<=c.Head/\c.Head<=65536/\1<=c.Name/\c.Name<=4096){r:Rd}{F:Fd}(V:Y4 F)(he:F.cs.flatten=[])(I:Inv c B r):
  ∃n,CM {r with Al:=F}=some n/\0<=n/\n<=1024+3*c.Head+4*c.Name:=by
 obtain⟨a,b,h1,h2,K,H,U,h6,h7,h8⟩:=HH _ _ I.b;have C:F.EM=0:=by rw[V.ok.sz,he];rfl
 have hg:(r.A9.length:Int)<=512\/(r.A9.length:Int)<=c.Head\/(r.A9.length:Int)<=c.Name+1:=by
  have E:=I.left;by_cases e0:r.Af=0
  ·have:=I.VA e0;omega
  by_cases e2:r.Af=2
  ·obtain⟨q1,q2,q3⟩:=I.Wp e2;split at q3<;>omega
  ·rw[I.Ta e0 e2];simp
 refine⟨r.A9.length+a+(b+r.BV.Gm.length+r.BV.HR.length),?_,by omega,by omega⟩;unfold CM Cu G1;simp only[h1,h2,C,za];rw[Ek (x:=b+_) om om,Ek (x:=b+_+_) om om,Ek (x:=0+_) om om,Ek (x:=0+_+a) om om,Ek om om];congr 1;omega
end
end Go.Av.L
end
/-
 A part.
-/
section
namespace Go.Av.L
open Go.Av Go.Lib
set_option linter.unusedVariables false
set_option linter.unusedSimpArgs false
def Vj:Td:=⟨[],false,0,0,false,ZW⟩
structure GB(x:Td)(gl:Int)(i:Nat):Prop where
 l:x.L.length<=i
 b:0<=gl/\gl<=1099511627776
 d:x.Cn=true->(x.Partial.Data.length:Int)+gl<=1099511627776
theorem gp{x x':Td}{gl gl':Int}{i:Nat}{e:Ev}(h:GB x gl i)(he:SH (x,gl) e=some (x',gl')):x'=Tm x e/\GB x' gl' (i+1):=by
 unfold SH at he;split at he;· cases he
 split at he
 ·rename_i h1;split at he;· cases he
  rename_i h2;simp only[not_or,qT,gt_iff_lt,ne_eq,Classical.not_not]at h2;simp only[zb,ze]at he;obtain⟨rfl,rfl⟩:=he;refine⟨rfl,⟨?_,⟨h2.2.2.1,h2.2.2.2.1⟩,λ_=>?_⟩⟩
  ·unfold Tm;rw[zl h1];exact yw h.l
  ·unfold Tm;rw[zl h1];show((e.Cb.Data.length:Int)+_<=_);rw[h2.2.1];simp;exact h2.2.2.2.1
 split at he
 ·rename_i h0 h1;split at he;· cases he
  rename_i h2;simp only[not_or,qT,gt_iff_lt,xm]at h2;simp only[zb,ze]at he;obtain⟨rfl,rfl⟩:=he;have K:=h.b;have H:=h.d h2.1;refine⟨rfl,⟨?_,⟨by show 0<=gl - _;omega,by show gl - _<=_;omega⟩,λ_=>?_⟩⟩
  ·unfold Tm;rw[zj h0,zl h1];exact yw h.l
  ·unfold Tm;rw[zj h0,zl h1];show(((x.Partial.Data++e.Bytes).length:Int)+(gl - _)<=_);rw[zi];omega
 split at he
 ·rename_i h0 h1 h2;split at he;· cases he
  simp only[zb,ze]at he;obtain⟨rfl,rfl⟩:=he;refine⟨rfl,⟨?_,h.b,λD=>?_⟩⟩
  ·unfold Tm;rw[zj h0,zj h1,zl h2];show(x.L++[x.Partial]).length<=_;have:=h.l;rw[zi,qf];omega
  ·unfold Tm at D;rw[zj h0,zj h1,zl h2]at D;exact absurd (show false=true from D) (by decide)
 split at he
 ·rename_i h0 h1 h2 K;split at he;· cases he
  rename_i H;simp only[zb,ze]at he;obtain⟨rfl,rfl⟩:=he;refine⟨rfl,⟨?_,h.b,λD=>?_⟩⟩
  ·unfold Tm;rw[zj h0,zj h1,zj h2];exact yw h.l
  ·unfold Tm at D⊢;rw[zj h0,zj h1,zj h2]at D⊢;exact h.d D
 ·cases he
theorem ZJ{l:List Ev}{x x':Td}{gl gl':Int}{i:Nat}(hi:i<l.length)(E:l.length<=1000000000)(h:GB x gl i)(he:SH (x,gl) l[i]=some (x',gl')):
  CR l (x,gl,(i:Int))=some (.inl (x',gl',((i+1:Nat):Int))):=by
 obtain⟨rfl,D⟩:=gp h he;unfold CR;show Ag (decide ((i:Int)<(l.length:Int))) _ _=_;rw[show(decide ((i:Int)<(l.length:Int)))=true from zg om,Ah];rw[Fe hi];simp only[za];generalize l[i]=e at he D⊢;have hw:IntKind.i64.wrap ((i:Int)+1)=((i+1:Nat):Int):=by rw[Ek om om];omega
 rw[hw];unfold SH at he;split at he;· cases he
 rename_i hE;simp only[yF]at hE;have hE2:∀{α:Type} (a b:Option α),Ag x.E8 a b=b:=by intro α a b;rw[show x.E8=false from hE];rfl
 rw[hE2];split at he
 ·rename_i h1;split at he;· cases he
  rename_i h2;simp only[not_or,qT,gt_iff_lt,ne_eq,Classical.not_not,yF]at h2;simp only[zb,ze]at he;have q:(((x.Cn|| !(e.Cb.Data==([]:List UInt8)))||decide (e.B9<0))|| !(e.Bytes==([]:List UInt8)))=false:=by
   rw[h2.1,h2.2.1,h2.2.2.2.2,zm om];rfl
  rw[show(e.Kind==1)=true from beq_iff_eq.2 h1,Ah,q,AV];unfold Tm;rw[zl h1,<-he.2];rfl
 rename_i k1;rw[show(e.Kind==1)=false from beq_eq_false_iff_ne.2 k1,AV];split at he
 ·rename_i h1;split at he;· cases he
  rename_i h2;simp only[not_or,qT,gt_iff_lt,xm]at h2;simp only[zb,ze]at he;have K:=h.b;have H:=h.d h2.1;have q:(((!x.Cn)||(e.Bytes==([]:List UInt8)))||decide ((e.Bytes.length:Int)>gl))=false:=by
   rw[h2.1,zm om,beq_eq_false_iff_ne.2 h2.2.1];rfl
  rw[show(e.Kind==2)=true from beq_iff_eq.2 h1,Ah,q,AV,show(decide (x.Partial.Data.length+e.Bytes.length<=9223372036854775807))=true from zg om,BR,Ek om om];unfold Tm;rw[zj k1,zl h1,<-he.2];rfl
 rename_i k2;rw[show(e.Kind==2)=false from beq_eq_false_iff_ne.2 k2,AV];split at he
 ·rename_i h1;split at he;· cases he
  rename_i h2;simp only[not_or,ne_eq,Classical.not_not,xm]at h2;simp only[zb,ze]at he;have K:=h.l;have q:((!x.Cn)||(gl !=0))=false:=by rw[h2.1,h2.2];rfl
  rw[show(e.Kind==3)=true from beq_iff_eq.2 h1,Ah,q,AV,show L1 168 (x.L.length+([x.Partial]:List AM).length)=true from JH (by simp;omega) (by simp;omega),BR];unfold Tm;rw[zj k1,zj k2,zl h1,<-he.2];rfl
 rename_i k3;rw[show(e.Kind==3)=false from beq_eq_false_iff_ne.2 k3,AV];split at he
 ·rename_i h1;split at he;· cases he
  rename_i h2;simp only[yF]at h2;simp only[zb,ze]at he;rw[show(e.Kind==4)=true from beq_iff_eq.2 h1,Ah,show ∀a b:Option ((Td×Int)⊕Bool),Ag x.Cn a b=b from λa b=>by rw[show x.Cn=false from h2];rfl];unfold Tm;rw[zj k1,zj k2,zj k3,<-he.2];rfl
 ·cases he
theorem Zv{l:List Ev}(E:l.length<=1000000000):∀(n i:Nat) (x:Td) (gl:Int) (x':Td) (gl':Int),i+n=l.length->GB x gl i->MR (x,gl) (l.drop i)=some (x',gl')->
  loop (CR l) (x,gl,(i:Int))=some (.inl x')/\GB x' gl' l.length:=by
 intro n
 induction n with
 |zero=>
  intro i x gl x' gl' hi h he;rw[yI om]at he;simp only[MR,zb,ze]at he;obtain⟨rfl,rfl⟩:=he;refine⟨Cl ?_,by rw[show l.length=i by omega];exact h⟩;unfold CR;show Ag (decide ((i:Int)<(l.length:Int))) _ _=_;rw[show(decide ((i:Int)<(l.length:Int)))=false from zm om,AV]
 | succ n ih=>
  intro i x gl x' gl' hi h he;have N:i<l.length:=by omega
  rw[zT N]at he;cases C:SH (x,gl) l[i]with
  |none=>rw[show MR (x,gl) (l[i]::l.drop (i+1))=none from by show(SH _ _).bind _=none;rw[C];rfl]at he;cases he
  | some s=>
   obtain⟨x1,gl1⟩:=s;have he':MR (x1,gl1) (l.drop (i+1))=some (x',gl'):=by
    rw[<-he];show _=(SH _ _).bind _;rw[C];rfl
   rw[Cm (ZJ N E h C)];exact ih (i+1) x1 gl1 x' gl' om (gp h C).2 he'
theorem Zf{l:List Ev}(E:l.length<=1000000000){x':Td}{gl':Int}(he:MR (Vj,0) l=some (x',gl')):C1 l=some (x',true)/\x'.L.length<=l.length:=by
 obtain⟨h1,h2⟩:=Zv E l.length 0 Vj 0 x' gl' om ⟨zw _,by decide,λh=>absurd h (by decide)⟩ (by rw[yn];exact he);refine⟨?_,h2.l⟩;unfold C1;have K:loop (CR l) ((⟨[],false,0,0,false,⟨[],[],0,0,0,0,[],[],0,0,⟨0,0⟩,[],[]⟩⟩:Td),(0:Int),(0:Int))=some (.inl x'):=h1;rw[K];rfl
end Go.Av.L
end
