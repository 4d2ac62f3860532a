/-
 A part.
-/
import Derived.Test.YtlddjbgohnlihaaGreatDoorWhC
namespace Go.Av.L
open Go.Av Go.Lib
set_option linter.unusedVariables false
set_option linter.unusedSimpArgs false
set_option maxRecDepth 10000
def Jq(s:List UInt8):Int×Int:=if s.length=0∨s.length>16 then(0,2)else if s.all J2=true then(if Dr s>9007199254740991 then(0,6)else((Dr s:Int),0))else(0,2)
theorem Wq{s:List UInt8}(I:s.length≤16):Av.loop (Cn s) ((0:Int),(0:Int))=some (if s.all J2=true then .inl (Dr s:Int)else .inr ((0:Int),(2:Int))):=by
 refine W.eq (W.list (l:=s) (fun(v:Nat) (i:Nat)=>((v:Int),(i:Int))) (fun v i=>v=Dr (s.take i)∧(s.take i).all J2=true) ?_ ?_ 0 ⟨rfl,rfl⟩)
 ·rintro v ⟨E,F⟩;unfold Cn;refine W.NH (fun h=>by omega) fun _=>W.ret ?_;rw[z8]at E F;rw[zm F,E]
 ·rintro v i hi ⟨E,F⟩;unfold Cn;refine W.NH (fun _=>?_) fun h=>by omega
  try simp only[]
  rw[GL hi];simp only[za];rw[Va,za,dn];cases hd:J2 s[i]with
  |false=>
   rw[yD,AQ];refine W.ret ?_;rw[zk (by rw[ZP hi hd];decide)]
  | true=>
   rw[zY,AK];have M:=Pu hd;have B:=Ul F (by rw[zA];omega);rw[←E]at B;refine W.ret ⟨WI v s[i],?_,?_,UP hi F hd⟩
   ·rw[DP (by omega),DK (x:=(10:Int)*(v:Int)) (by omega) (by omega),DK (x:=(s[i].toNat:Int)) (by omega) (by omega),DK (x:=(10:Int)*(v:Int)+(s[i].toNat:Int)) (by omega) (by omega),DK (by omega) (by omega)];unfold WI;refine Prod.ext ?_ rfl;show(10:Int)*v+s[i].toNat - 48=((10*v+(s[i].toNat - 48):Nat):Int);omega
   ·rw[Da (List.getElem?_eq_getElem hi),Ir,←E];rfl
theorem SB(s:List UInt8):Dk s=some (Jq s):=by
 unfold Dk Jq;by_cases h:s.length=0∨s.length>16
 ·rw[zm h,show(decide ((s.length:Int)<1)||decide ((s.length:Int)>16))=true from by rw[yo,zD,zD];omega,AQ]
 ·rw[zk h,show(decide ((s.length:Int)<1)||decide ((s.length:Int)>16))=false from by rw[zH,zx,zx];omega,AK,Wq (by omega),za];by_cases F:s.all J2=true
  ·rw[zm F,zm F];simp only[];by_cases E:Dr s>9007199254740991
   ·rw[zm E,zf (by omega),AQ]
   ·rw[zk E,zi (by omega),AK]
  ·rw[zk F,zk F]
theorem KU{n:Int}(h:0≤n)(h2:n≤9007199254740991):Jq (Lib.itoa n)=(n,0):=by
 obtain⟨f1,f2,f3⟩:=G3 n.toNat;have Z:=FB 16 n.toNat (by omega) (by rw[show 10^16=10000000000000000 from rfl];omega);unfold Jq;rw[Ge h,zk (by omega),zm f1,f2,zk (by omega)];congr 1;omega
def dO(sec ns:Nat)(body:List UInt8):Prop:=(ns=0∧body=decDigits sec)∨(0<ns∧∃pt k,body=decDigits sec++46::pt∧(decDigits (1000000000+ns)).drop 1=pt++List.replicate k 48)
def RW:List UInt8→List UInt8×Bool
 |[]=>([],false)
 |c::t=>if c=45 then(t,true)else(c::t,false)
theorem Tb(c:UInt8):DG (c.toNat:Int)=some (J2 c):=by
 unfold DG J2;congr 1;rw[qj,zh,zh];simp only[zD];omega
theorem J5{s:List UInt8}{o n:Nat}(h:o+n<s.length)(F:((s.drop o).take n).all J2=true)(hd:J2 s[o+n]=true):((s.drop o).take (n+1)).all J2=true:=by
 have J:n<(s.drop o).length:=by rw[yd];omega
 refine UP J F ?_;rw[List.getElem_drop];exact hd
theorem Lp{s:List UInt8}{o n:Nat}(h:o+n<s.length):(s.drop o).take (n+1)=(s.drop o).take n++[s[o+n]]:=
 Da (by rw[List.getElem?_drop,List.getElem?_eq_getElem h])
theorem aJ{s:List UInt8}{o:Nat}(X:o≤s.length)(I:s.length≤1000):W (Av.loop (EE s) ((o:Int),(0:Int),(0:Int))) fun r=>∃n:Nat,o+n≤s.length∧n≤17∧((s.drop o).take n).all J2=true∧
  r=(((o+n:Nat):Int),(Dr ((s.drop o).take n):Int),(n:Int))∧(n=17∨o+n=s.length∨∃h:o+n<s.length,J2 s[o+n]=false):=by
 refine W.loop (fun u=>∃n:Nat,o+n≤s.length∧n≤17∧((s.drop o).take n).all J2=true∧u=(((o+n:Nat):Int),(Dr ((s.drop o).take n):Int),(n:Int))) (fun u=>(s.length - u.1).toNat) ⟨0,by omega,by omega,rfl,rfl⟩ ?_;rintro _ ⟨n,h1,h2,C,rfl⟩;unfold EE;simp only[];by_cases B:o+n<s.length
 ·rw [zf (by omega),AQ,GL B,za,Tb,za,za,za];cases hd:J2 s[o+n]with
  |false=>exact W.ret ⟨n,h1,h2,C,rfl,.inr (.inr ⟨B,hd⟩)⟩
  | true=>
   rw[yL];refine W.NH (fun h17=>?_) fun h17=>W.ret ⟨n,h1,h2,C,rfl,.inl (by omega)⟩;have M:=Pu hd;have E:=Ul C (by rw[zA];omega);rw[DP (by omega),DP (by omega),DK (x:=(10:Int)*_) (by omega) (by omega),DK (x:=(s[o+n].toNat:Int)) (by omega) (by omega),DK (x:=(10:Int)*_+(s[o+n].toNat:Int)) (by omega) (by omega),DK (by omega) (by omega)];refine W.ret ⟨⟨n+1,by omega,by omega,J5 B C hd,?_⟩,?_⟩
   ·refine Prod.ext ?_ (Prod.ext ?_ ?_)
    ·show((o+n+1:Nat):Int)=((o+(n+1):Nat):Int);rfl
    ·show(10:Int)*(Dr ((s.drop o).take n):Int)+s[o+n].toNat - 48=_;rw[Lp B,Ir];dsimp only;omega
    ·rfl
   ·simp only[];omega
 ·rw[zi (by omega),AK,za,yX,AK];exact W.ret ⟨n,h1,h2,C,rfl,.inr (.inl (by omega))⟩
theorem Zy{s:List UInt8}{o:Nat}(X:o≤s.length)(I:s.length≤1000):W (Av.loop (EF s) ((o:Int),(0:Int),(0:Int))) fun r=>∃n:Nat,o+n≤s.length∧((s.drop o).take n).all J2=true∧
  r=(((o+n:Nat):Int),(Dr (((s.drop o).take n).take 9):Int),(n:Int))∧(o+n=s.length∨∃h:o+n<s.length,J2 s[o+n]=false):=by
 refine W.loop (fun u=>∃n:Nat,o+n≤s.length∧((s.drop o).take n).all J2=true∧u=(((o+n:Nat):Int),(Dr (((s.drop o).take n).take 9):Int),(n:Int))) (fun u=>(s.length - u.1).toNat) ⟨0,by omega,rfl,rfl⟩ ?_;rintro _ ⟨n,h1,C,rfl⟩;unfold EF;simp only[];by_cases B:o+n<s.length
 ·rw [zf (by omega),AQ,GL B];simp only[za];rw[Tb,za,za];cases hd:J2 s[o+n]with
  |false=>exact W.ret ⟨n,h1,C,rfl,.inr ⟨B,hd⟩⟩
  | true=>
   rw[AQ];have M:=Pu hd;have hln:((s.drop o).take n).length=n:=by rw[zA,yd];omega
   by_cases h9:n<9
   ·have htt:((s.drop o).take n).take 9=(s.drop o).take n:=zI (by omega);have E:=Ul C (by omega);rw[zf (by omega),AQ,za,htt,DP (by omega),DP (by omega),DK (x:=(10:Int)*_) (by omega) (by omega),DK (x:=(s[o+n].toNat:Int)) (by omega) (by omega),DK (x:=(10:Int)*_+(s[o+n].toNat:Int)) (by omega) (by omega),DK (by omega) (by omega)];refine W.ret ⟨⟨n+1,by omega,J5 B C hd,?_⟩,?_⟩
    ·refine Prod.ext rfl (Prod.ext ?_ rfl);show(10:Int)*(Dr ((s.drop o).take n):Int)+s[o+n].toNat - 48=_;rw[zI (l:=(s.drop o).take (n+1)) (by rw[zA];omega),Lp B,Ir];dsimp only;omega
    ·simp only[];omega
   ·rw[zi (by omega),AK,za,DP (by omega),DP (by omega)];refine W.ret ⟨⟨n+1,by omega,J5 B C hd,?_⟩,?_⟩
    ·refine Prod.ext rfl (Prod.ext ?_ rfl);show(Dr (((s.drop o).take n).take 9):Int)=(Dr (((s.drop o).take (n+1)).take 9):Int);rw[qY,qY,qs (by omega),qs (by omega)]
    ·simp only[];omega
 ·rw[zi (by omega),AK,za,AK];exact W.ret ⟨n,h1,C,rfl,.inl (by omega)⟩
theorem V3:∀(k v m:Nat),m+k=9→v<10^m→Av.loop CA ((v:Int),(m:Int))=some (((v*10^k:Nat)):Int)
 |0,v,m,h,E=>by
  refine Dn ?_;unfold CA;simp only[];rw[zi (by omega),AK,xN,Nat.mul_one]
 | k+1,v,m,h,E=>by
  have hm:v<1000000000:=zX E (qE (n:=10) (by decide) (show m≤9 by omega));have e:CA ((v:Int),(m:Int))=some (.inl (((10*v:Nat):Int),((m+1:Nat):Int))):=by
   unfold CA;simp only[];rw[zf (by omega),AQ,DP (by omega),DK (by omega) (by omega)];congr 2
  rw[B7 e,V3 k (10*v) (m+1) (by omega) (by rw[y4];omega)];congr 2;rw[y4,qp 10 v,xb,qp 10]
def TA(neg:Bool)(v n:Int):Option (Int×Int×Int):=
 (AX neg (AX (decide (n>0)) (some (IntKind.i64.wrap ((IntKind.i64.wrap (0 - v)) - 1),IntKind.i64.wrap ((1000000000:Int) - n))) (some (IntKind.i64.wrap (0 - v),n))) (some (v,n)):Option ((Int×Int))).bind fun(x33,x34)=>(Bj x33 x34).bind fun x35=>AX (!x35) (some ((0:Int),(0:Int),(6:Int))) (some (x33,x34,(0:Int)))
theorem UU(s:List UInt8):∃o:Nat,o≤s.length∧s.drop o=(RW s).1∧(AX (decide ((s.length:Int)>0)) ((JQ s (0:Int)).bind fun x2=>some (x2==45)) (some false):Option (Bool))=some (RW s).2∧
  (AX (RW s).2 (some (1:Int)) (some (0:Int)):Option ((Int)))=some (o:Int):=by
 cases s with
 |nil=>exact⟨0,by simp,rfl,rfl,rfl⟩
 | cons c t=>
  rw[zf (by simp),AQ,Xa,za];have hm:RW (c::t)=if c=45 then(t,true)else(c::t,false):=rfl
  have M:((c.toNat:Int)==45)=(c==45):=Hq (b:=c) (n:=45) (by omega);rw[M,hm];by_cases h:c=45
  ·rw[zm h];exact⟨1,by simp,rfl,by rw[h];rfl,rfl⟩
  ·rw[zk h];exact⟨0,by simp,rfl,by rw[show(c==45)=false from by rw[zL];exact h],rfl⟩
theorem WO{s:List UInt8}(h:s.all J2=true)(h1:1≤s.length)(t:List UInt8):RW (s++t)=(s++t,false):=by
 cases s with
 |nil=>simp at h1
 |cons c s=>
  have hc:c≠45:=fun e=>by subst e;rw[zR,zh]at h;exact absurd h.1 (by decide)
  show(if c=45 then(s++t,true)else(c::(s++t),false))=_;rw[zk hc];rfl
theorem VD(a b:Int):Dw ⟨a,b⟩=Bj a b:=by
 unfold Dw Bj;congr 2;rw[yG];simp only[];omega
theorem Qx{sign:Bool}{sec ns:Nat}{body:List UInt8}(h1:sec≤9007199254740991)(h2:ns<1000000000)(M:dO sec ns body):BJ ((bif sign then[45]else[])++body)=TA sign (sec:Int) (ns:Int):=by
 obtain⟨f1,f2,f3⟩:=G3 sec;have Z:=FB 16 sec (by omega) (by rw[show 10^16=10000000000000000 from rfl];omega);obtain⟨t,Q,hbl⟩:∃t,body=decDigits sec++t∧body.length≤40:=by
  rcases M with⟨_,e⟩|⟨V,pt,k,e,hk⟩
  ·exact⟨[],by rw[e,yj],by rw[e];omega⟩
  ·obtain⟨r,R,r1,r2,r3⟩:=O8 h2;rw[R,yZ,yl]at hk;have:=congrArg List.length hk;rw[ze]at this;exact⟨_,e,by rw[e,ze,zt];omega⟩
 have hm:RW ((bif sign then[45]else[])++body)=(body,sign):=by
  cases sign with
  |true=>rfl
  |false=>rw[Q];exact WO f1 f3 t
 generalize I:(bif sign then([45]:List UInt8)else[])++body=s at hm;have hsl:s.length≤41:=by rw[←I];cases sign<;>simp<;>omega
 obtain⟨o,X,D,q1,q2⟩:=UU s;rw[hm]at D q1 q2;dsimp only at D q1 q2;obtain⟨r,er,n,n1,n2,n3,N,n4⟩:=aJ X (by omega:s.length≤1000);subst N;rw[D,Q]at n3;have U:∀k,s[o+k]?=body[k]?:=fun k=>by rw[←D,List.getElem?_drop]
 have T:body.length=s.length - o:=by rw[←D,yd]
 have J:n=(decDigits sec).length:=by
  rcases ql n (decDigits sec).length with h|h|h
  ·exfalso;have hin:o+n<s.length:=by rw[Q,ze]at T;omega
   rcases n4 with e|e|⟨B,e⟩
   ·omega
   ·omega
   ·have C:s[o+n]?=(decDigits sec)[n]?:=by rw[U,Q,List.getElem?_append_left h]
    rw[List.getElem?_eq_getElem B,List.getElem?_eq_getElem h]at C;injection C with C;rw[zn]at f1;have:=f1 _ (zS h);rw[←C,e]at this;cases this
  ·exact h
  ·exfalso;have hlen:n≤body.length:=by omega
   rw[List.take_append,qi,zh]at n3;rcases M with⟨_,e⟩|⟨V,pt,k,e,hk⟩
   ·rw[e]at hlen;omega
   ·have ht':t=46::pt:=List.append_cancel_left (Q.symm.trans e);rw[ht',show n - (decDigits sec).length=(n - (decDigits sec).length - 1)+1 by omega,qc,zR,zh]at n3;exact absurd n3.2.1 (by decide)
 have htk:(s.drop o).take n=decDigits sec:=by rw[D,Q,J,yW]
 unfold BJ;rw[q1,za,q2,za,er,za];dsimp only;rw[htk,f2,show(decide ((n:Int)<1)||decide ((n:Int)>16))=false from by rw[zH,zx,zx];omega,AK];rcases M with⟨rfl,e⟩|⟨V,pt,k,e,hk⟩
 ·have:o+n=s.length:=by rw[e]at T;omega
  rw[zi (by omega),AK,za];rfl
 ·obtain⟨r,R,r1,r2,r3⟩:=O8 h2;rw[R,yZ,yl]at hk;subst hk;rw[ze,zT]at r1;rw[qi,zh]at r2;have hp1:1≤pt.length:=by
   rcases yv pt.length with e|e
   ·have:pt=[]:=zy e;subst this;have:=Mz [] k;rw[this]at r3;simp[Dr]at r3;omega
   ·exact e
  have hbl2:body.length=n+1+pt.length:=by rw[e,ze,zt];omega
  have B:o+n<s.length:=by omega
  have h46:s[o+n]=46:=by
   have C:s[o+n]?=some 46:=by rw[U,e,List.getElem?_append_right (by omega),J,yV];rfl
   rw[List.getElem?_eq_getElem B]at C;injection C
  have G:s.drop (o+n+1)=pt:=by
   rw[show o+n+1=o+(n+1) by omega,←qm,D,e,xm,J];simp
  rw[zf (by omega),AQ,GL B,za,h46,show(((46:UInt8).toNat:Int) !=46)=false from rfl,AK,DP (by omega)];obtain⟨r',er1,m,m1,m2,N,m4⟩:=Zy (s:=s) (o:=o+n+1) (by omega) (by omega);subst N;have hmm:m=pt.length:=by
   have:pt.length=s.length - (o+n+1):=by rw[←G,yd]
   rcases m4 with h|⟨h,hc⟩
   ·omega
   ·exfalso;have C:s[o+n+1+m]?=pt[m]?:=by rw[←G,List.getElem?_drop]
    rw[List.getElem?_eq_getElem h,List.getElem?_eq_getElem (by omega)]at C;injection C with C;have Y:=r2.1;rw[zn]at Y;have:=Y _ (zS (l:=pt) (n:=m) (by omega));rw[←C,hc]at this;cases this
  rw[er1,za];dsimp only;rw[G,hmm,z8,zI (l:=pt) (by omega)];have hsl2:pt.length=s.length - (o+n+1):=by rw[←G,yd]
  rw[show((decide (((pt.length:Nat):Int)<1)||decide (((pt.length:Nat):Int)>40))||decide (((o+n+1+pt.length:Nat):Int)<(s.length:Int)))=false from by rw[zH,zH,zx,zx,zx];omega,AK];rw[V3 (9 - pt.length) (Dr pt) pt.length (by omega) (Kl r2.1 (by omega)),za,za];have hz:Dr pt*10^(9 - pt.length)=ns:=by
   rw[←r3,Mz,show k=9 - pt.length by omega]
  rw[hz];rfl
theorem TE{t:Ap}(h:Nu t):W (DO t) fun r=>r.2=0∧BJ r.1=some (t.Bu,t.BG,0):=by
 have R:=Vh h;have O:Bj t.Bu t.BG=some true:=by
  rw[←VD];exact R
 obtain⟨h1,h2,C,Y⟩:=h;unfold DO;rw[R,za,zY,AK];obtain⟨sec,ns,sign,H,P,hmid,K⟩:∃(sec ns:Nat) (sign:Bool),sec≤9007199254740991∧ns<1000000000∧
   (AX (decide (t.Bu<0)) ((E3 t).bind fun x5=>some (x5.Bu,x5.BG,([45]:List UInt8))) (some (t.Bu,t.BG,([]:List UInt8))):Option ((Int×Int×(List UInt8))))=some ((sec:Int),(ns:Int),bif sign then[45]else[])∧TA sign sec ns=some (t.Bu,t.BG,0):=by
  by_cases I:t.Bu<0
  ·by_cases J:t.BG=0
   ·refine⟨(-t.Bu).toNat,0,true,by omega,by omega,?_,?_⟩
    ·rw[zf I,AQ];unfold E3;rw[show(t.BG==0)=true from by rw[J];rfl,AQ,za,DK (by omega) (by omega)];simp only[zW];rw[show(0:Int) - t.Bu=(((-t.Bu).toNat:Nat):Int) by omega];rfl
    ·unfold TA;rw[AQ,zi (by omega),AK,za];dsimp only;rw[DK (by omega) (by omega),show(0:Int) - (((-t.Bu).toNat:Nat):Int)=t.Bu by omega,show(((0:Nat):Int))=t.BG by omega,O];rfl
   ·refine⟨(-t.Bu - 1).toNat,(1000000000 - t.BG).toNat,true,by omega,by omega,?_,?_⟩
    ·rw[zf I,AQ];unfold E3;rw[show(t.BG==0)=false from beq_eq_false_iff_ne.2 J,AK,za,DK (x:=0 - t.Bu) (by omega) (by omega),DK (by omega) (by omega),DK (by omega) (by omega)];simp only[zW];have e1:(0:Int) - t.Bu - 1=(((-t.Bu - 1).toNat:Nat):Int):=by omega
     have e2:(1000000000:Int) - t.BG=(((1000000000 - t.BG).toNat:Nat):Int):=by omega
     rw[←e1,←e2]
    ·unfold TA;rw[AQ,zf (by omega),AQ,za];dsimp only;rw[DK (x:=0 - (((-t.Bu - 1).toNat:Nat):Int)) (by omega) (by omega),DK (by omega) (by omega),DK (by omega) (by omega),show(0:Int) - (((-t.Bu - 1).toNat:Nat):Int) - 1=t.Bu by omega,show(1000000000:Int) - (((1000000000 - t.BG).toNat:Nat):Int)=t.BG by omega,O];rfl
  ·refine⟨t.Bu.toNat,t.BG.toNat,false,by omega,by omega,?_,?_⟩
   ·rw[zi I,AK];simp only[y9];rw[show t.Bu=((t.Bu.toNat:Nat):Int) by omega,show t.BG=((t.BG.toNat:Nat):Int) by omega];simp
   ·unfold TA;rw[AK,za];dsimp only;rw[show((t.Bu.toNat:Nat):Int)=t.Bu by omega,show((t.BG.toNat:Nat):Int)=t.BG by omega,O];rfl
 obtain⟨f1,f2,f3⟩:=G3 sec;have Z:=FB 16 sec (by omega) (by rw[show 10^16=10000000000000000 from rfl];omega);have hsl:(bif sign then([45]:List UInt8)else[]).length≤1:=by cases sign<;>simp
 rw[hmid,za];dsimp only;have hit:Lib.itoa (sec:Int)=decDigits sec:=by rw[Ge (by omega),zN]
 rw[zf (by omega),Ak,hit,zf (by omega),Ak];by_cases V:ns=0
 ·subst V;rw[show((((0:Nat):Int))==0)=true from rfl,AQ];refine W.ret ⟨rfl,?_⟩;dsimp only;rw[Qx H P (.inl ⟨rfl,rfl⟩),K]
 ·rw[show((ns:Int)==0)=false from by rw[zL];omega,AK];have hw:IntKind.i64.wrap ((1000000000:Int)+(ns:Int))=((1000000000+ns:Nat):Int):=by rw[DK (by omega) (by omega)];omega
  obtain⟨r,S,r1,r2,r3⟩:=O8 P;have hit2:Lib.itoa ((1000000000+ns:Nat):Int)=decDigits (1000000000+ns):=by rw[Ge (by omega),zN]
  rw[hw,zf (by omega),Ak,hit2,S,show(1:Int)=((1:Nat):Int) from rfl,NR (by simp),za,yZ,yl];rw[zf (by simp only[ze,zt,zG];omega),Ak];refine W.bind ((Zc r (by omega)).mono fun pt hpt=>?_);obtain⟨k,hk⟩:=hpt;have hptl:pt.length≤9:=by have:=congrArg List.length hk;rw[ze]at this;omega
  rw[zf (by simp only[ze,zt,zG];omega),Ak];refine W.ret ⟨rfl,?_⟩;dsimp only;rw[zw,zw,show decDigits sec++([46]++pt)=decDigits sec++46::pt from rfl,Qx H P (.inr ⟨by omega,pt,k,rfl,by rw[S];exact hk⟩),K]
end Go.Av.L
