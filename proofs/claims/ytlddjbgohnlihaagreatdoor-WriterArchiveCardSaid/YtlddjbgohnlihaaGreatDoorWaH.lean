/-
  Several texts in one.
-/
import Derived.Test.YtlddjbgohnlihaaGreatDoorWhE
import Derived.Test.YtlddjbgohnlihaaGreatDoorWaA
/-
 A part.
-/
section
namespace Go.Av.L
open Go.Av Go.Lib
set_option linter.unusedVariables false
set_option linter.unusedSimpArgs false
set_option maxRecDepth 10000
theorem eM{h:AN}{p q:List UInt8}(F:Fit h p q):D6 (DV h p q).flatten none (some (100:Int))=some (pd q 100):=by
 have S:=F.shape;rw[show(100:Int)=((100:Nat):Int) from rfl,Ie (by rw[S.flat];omega)];congr 1;have:(DV h p q).flatten=pd q 100++((DV h p q).drop 1).flatten:=rfl;rw[this,List.take_append,EG F.pq.len.2,yV,y7,yj,zI (by rw[EG F.pq.len.2];omega)]
theorem cr{s p q:List UInt8}(h:JS s (p,q,true))(G:s.length≤1000000):
  (AX (((2:Int)==2)&&(!(p==([]:List UInt8)))) (Bn (decide (p.length+([47]:List UInt8).length≤9223372036854775807))<|Bn (decide ((p++([47]:List UInt8)).length+q.length≤9223372036854775807))<|some ((p++([47]:List UInt8))++q)) (some q):Option (List UInt8))=some s:=by
 rw[show((2:Int)==2)=true from rfl,yL];rcases h with⟨h1,e⟩|⟨h1,⟨e,_⟩|⟨i,c,_,e⟩⟩
 ·cases e;rfl
 ·cases e
 ·obtain⟨c1,c2,c3,c4,c5⟩:=c;cases e;have V:(s.take i==([]:List UInt8))=false:=by
   rw[zL];intro e;have h9:=congrArg List.length e;rw[zA,zG]at h9;omega
  rw[V,yD,AQ,zf (by rw[zA];simp;omega),Ak,zf (by rw[ze,zA,yd];simp;omega),Ak];congr 1;rw[zw];have hi:i<s.length:=by omega
  have e:s[i]=47:=by
   rw[List.getElem?_eq_getElem hi]at c3;exact zJ c3
  conv=>rhs;rw[←zM i s,zP hi,e]
  rfl
def ae(h:AN):AN:=⟨h.Name,h.Ah,if h.Kind=0 then 48 else h.Kind,h.Mode,h.BO,h.BW,h.B2,h.Time,h.AZ,h.Ad,h.Aj,h.Ao,2⟩
theorem QH{h:AN}{p q:List UInt8}(F:Fit h p q)(D:h.Name.length≤1000000):D7 (DV h p q).flatten=some (ae h,0):=by
 have S:=F.shape;have hf:=S.flat;obtain⟨l1,l2⟩:=F.pq.len;have K:=F.ey;unfold Tt at K;simp only[zH]at K;obtain⟨z1,z2,z3,z4⟩:=K;obtain⟨zp,zq⟩:=Yn F.pq z1;obtain⟨n1,n2,n3,n4,n5,n6,n7⟩:=(Nh h).1 F.n;have u:(DV h p q).getD 9 []=([117,115,116,97,114,0,48,48]:List UInt8):=rfl;unfold D7;rw[hf,show((((512:Nat)):Int) !=512)=false from rfl,AK,VF F,za,zY,AK,PM S (i:=9) (by omega) (a:=257) (b:=265) rfl rfl (by decide),za,u,xn,AQ,za];dsimp only;rw[VN S (i:=1) (by omega) (a:=100) (b:=8) false rfl rfl (by decide) (Pz n1) n1.1,za];dsimp only;rw[show((0:Int) !=0)=false from rfl,AK,VN S (i:=2) (by omega) (a:=108) (b:=8) false rfl rfl (by decide) (Pz n2) n2.1,za];dsimp only;rw[show((0:Int) !=0)=false from rfl,AK,VN S (i:=3) (by omega) (a:=116) (b:=8) false rfl rfl (by decide) (Pz n3) n3.1,za];dsimp only;rw[show((0:Int) !=0)=false from rfl,AK,VN S (i:=4) (by omega) (a:=124) (b:=12) false rfl rfl (by decide) (Vd n4) n4.1,za];dsimp only;rw[show((0:Int) !=0)=false from rfl,AK,VN S (i:=5) (by omega) (a:=136) (b:=12) true rfl rfl (by decide) (Vd n5) n5.1,za];dsimp only;rw[show((0:Int) !=0)=false from rfl,AK,show decide ((2:Int)>1)=true from rfl,AQ,VN S (i:=12) (by omega) (a:=329) (b:=8) false rfl rfl (by decide) (Pz n6) n6.1,za];dsimp only;rw[show((0:Int) !=0)=false from rfl,AK,VN S (i:=13) (by omega) (a:=337) (b:=8) false rfl rfl (by decide) (Pz n7) n7.1,za];dsimp only;rw[show((0:Int) !=0)=false from rfl,AK,PM S (i:=10) (by omega) (a:=265) (b:=297) rfl rfl (by decide),za,show(DV h p q).getD 10 []=pd h.AZ 32 from rfl,LW F.t.2.1 (by omega) z3,za,PM S (i:=11) (by omega) (a:=297) (b:=329) rfl rfl (by decide),za,show(DV h p q).getD 11 []=pd h.Ad 32 from rfl,LW F.t.2.2 (by omega) z4,za,za]
 dsimp only;rw[eM F,za,LW l2 (by omega) zq,za,PM S (i:=14) (by omega) (a:=345) (b:=500) rfl rfl (by decide),za,show(DV h p q).getD 14 []=pd p 155 from rfl,LW l1 (by omega) zp,za,cr F.pq D,za,PM S (i:=8) (by omega) (a:=157) (b:=257) rfl rfl (by decide),za,show(DV h p q).getD 8 []=pd h.Ah 100 from rfl,LW F.t.1 (by omega) z2,za];obtain⟨kn,hkn⟩:=qu F.k.1;have hk2:=F.k.2;have J:((Kw h.Kind).toNat:Int)=if h.Kind=0 then 48 else h.Kind:=by
  unfold Kw;by_cases N:h.Kind=0
  ·rw[zm N,zm N];rfl
  ·rw[zk N,zk N,hkn,zN,UInt8.toNat_ofNat_of_lt' (by show kn<256;omega)]
 rw[show(156:Int)=((M1 7:Nat):Int) from rfl,FX (byte_at S (i:=7) (by omega) (b:=Kw h.Kind) (r:=[]) rfl),za,J,Lm];have hk0:¬(if h.Kind=0 then(48:Int)else h.Kind)=0:=by split<;>omega
 rw[zk hk0,za];rfl
section
variable {s A B:List UInt8} {p:Pr}
theorem U6(G:s=A++(Fq p++B))(j:Nat):s[A.length+j]?=(Fq p++B)[j]?:=by
 rw[G,List.getElem?_append_right (by omega),ya]
theorem dB(h:Ky p)(G:s=A++(Fq p++B))(hl:s.length≤100000):
  loop (EC s (A.length:Int)) ((A.length:Int),(0:Int))=some (((A.length+(decDigits (FO p)).length:Nat):Int),(FO p:Int)):=by
 obtain⟨f1,f2,f3⟩:=G3 (FO p);obtain⟨g1,g2⟩:=Ix h;have hd:=FB 4 (FO p) (by omega) (by rw[show 10^4=10000 from rfl];omega);have X:s.length=A.length+((Fq p).length+B.length):=by rw[G,ze,ze]
 have Y:(decDigits (FO p)).length+2≤(Fq p).length:=by
  unfold Fq;simp only[ze,zt,zG];omega
 have E:=U6 G;refine W.eq (W.mono (W.loop (fun u=>∃n:Nat,n≤(decDigits (FO p)).length∧u=(((A.length+n:Nat):Int),(Dr ((decDigits (FO p)).take n):Int))) (fun u=>(s.length - u.1).toNat) ⟨0,by omega,rfl⟩ ?_) fun r H=>H);rintro _ ⟨n,h1,rfl⟩;unfold EC;dsimp only;rw[zf (show((A.length+n:Nat):Int)<(s.length:Int) by omega),DK (x:=(A.length:Int)+7) (by omega) (by omega),zf (show((A.length+n:Nat):Int)<(A.length:Int)+7 by omega),yL,AQ];by_cases D:n<(decDigits (FO p)).length
 ·have hc:s[A.length+n]?=some (decDigits (FO p))[n]:=by
   rw[E,List.getElem?_append_left (by omega)];unfold Fq;rw[List.getElem?_append_left D,List.getElem?_eq_getElem D]
  have hdg:J2 (decDigits (FO p))[n]=true:=by
   rw[zn]at f1;exact f1 _ (zS D)
  have hb:=Pu hdg;have htk:=Da (List.getElem?_eq_getElem D);have hall:((decDigits (FO p)).take n).all J2=true:=by
   rw[zn]at f1⊢;exact fun c hc=>f1 c (yE hc)
  have hv:=Kl hall (n:=4) (by rw[zA];omega);rw[show 10^4=10000 from rfl]at hv;rw[FX hc,za,za,zf (by omega),AQ,za,za,zf (by omega),AQ,za];rw[DP (by omega),DK (x:=(10:Int)*_) (by omega) (by omega),DK (x:=((decDigits (FO p))[n].toNat:Int)) (by omega) (by omega),DK (x:=(10:Int)*_+_) (by omega) (by omega),DK (by omega) (by omega)];refine W.ret ⟨⟨n+1,by omega,?_⟩,by dsimp only;omega⟩;rw[htk,Ir];refine Prod.ext ?_ ?_
  ·dsimp only;omega
  ·dsimp only;omega
 ·have M:n=(decDigits (FO p)).length:=by omega
  have hc:s[A.length+n]?=some 32:=by
   rw[E,List.getElem?_append_left (by omega),M];unfold Fq;rw[List.getElem?_append_right (by omega),yV];rfl
  rw[FX hc,za,show decide ((((32:UInt8).toNat:Nat):Int)≥48)=false from rfl,za,AK,za,AK];refine W.ret ?_;rw[M,z8,f2]
theorem cu(h:Ky p)(G:s=A++(Fq p++B))(hl:s.length≤100000):
  loop (ED s (A.length:Int) (FO p:Int)) ((A.length+(decDigits (FO p)).length+1:Nat):Int)=some ((A.length+(decDigits (FO p)).length+1+p.Key.length:Nat):Int):=by
 obtain⟨g1,g2⟩:=Ix h;have X:s.length=A.length+((Fq p).length+B.length):=by rw[G,ze,ze]
 have Y:(Fq p).length=(decDigits (FO p)).length+p.Key.length+p.Value.length+3:=by
  unfold Fq;simp only[ze,zt,zG];omega
 have E:=U6 G;refine W.eq (W.mono (W.loop (fun u=>∃n:Nat,n≤p.Key.length∧u=((A.length+(decDigits (FO p)).length+1+n:Nat):Int)) (fun u=>(s.length - u).toNat) ⟨0,by omega,rfl⟩ ?_) fun r H=>H);rintro _ ⟨n,h1,rfl⟩;unfold ED;dsimp only;rw[DK (x:=(A.length:Int)+(FO p:Int)) (by omega) (by omega),DK (by omega) (by omega),zf (by omega),AQ];have I:s[A.length+(decDigits (FO p)).length+1+n]?=(p.Key++([61]++(p.Value++[10])))[n]?:=by
  rw[show A.length+(decDigits (FO p)).length+1+n=A.length+((decDigits (FO p)).length+(1+n)) by omega,E,List.getElem?_append_left (by omega)];unfold Fq;rw[List.getElem?_append_right (by omega),ya,List.getElem?_append_right (by simp)];congr 1;simp
 by_cases D:n<p.Key.length
 ·have hc:s[A.length+(decDigits (FO p)).length+1+n]?=some p.Key[n]:=by
   rw[I,List.getElem?_append_left D,List.getElem?_eq_getElem D]
  have V:((p.Key[n].toNat:Int) !=61)=true:=by
   rw[show(61:Int)=((61:Nat):Int) from rfl];show(!((p.Key[n].toNat:Int)==((61:Nat):Int)))=true;rw[Hq (by omega),zK,zL];exact fun e=>h.eq (by rw[show(61:UInt8)=UInt8.ofNat 61 from rfl,←e];exact zS D)
  rw[FX hc,za,za,V,AQ,DP (by omega)];exact W.ret ⟨⟨n+1,by omega,by omega⟩,by omega⟩
 ·have M:n=p.Key.length:=by omega
  have hc:s[A.length+(decDigits (FO p)).length+1+n]?=some 61:=by
   rw[I,M,List.getElem?_append_right (by omega),yV];rfl
  rw[FX hc,za,za,show((((61:UInt8).toNat:Nat):Int) !=61)=false from rfl,AK];exact W.ret (by rw[M])
theorem ZR{l:List Pr}(h:Ky p)(G:s=A++(Fq p++B))(hl:s.length≤60000)(hll:l.length≤200):
  B5 s (l,(A.length:Int))=some (.inl (l++[p],((A.length+(Fq p).length:Nat):Int))):=by
 obtain⟨f1,f2,f3⟩:=G3 (FO p);obtain⟨g1,g2⟩:=Ix h;have hd:=FB 4 (FO p) (by omega) (by rw[show 10^4=10000 from rfl];omega);have X:s.length=A.length+((Fq p).length+B.length):=by rw[G,ze,ze]
 have Y:(Fq p).length=(decDigits (FO p)).length+p.Key.length+p.Value.length+3:=by
  unfold Fq;simp only[ze,zt,zG];omega
 have hk1:1≤p.Key.length:=by
  rcases yv p.Key.length with e|e
  ·exact absurd (zy e) h.ne
  ·exact e
 have E:=U6 G;have I:∀n,n≤p.Key.length+p.Value.length+1→s[A.length+(decDigits (FO p)).length+1+n]?=(p.Key++([61]++(p.Value++[10])))[n]?:=fun n D=>by
  rw[show A.length+(decDigits (FO p)).length+1+n=A.length+((decDigits (FO p)).length+(1+n)) by omega,E,List.getElem?_append_left (by omega)];unfold Fq;rw[List.getElem?_append_right (by omega),ya,List.getElem?_append_right (by simp)];congr 1;simp
 have N:∃c:UInt8,s[A.length]?=some c∧((c.toNat:Int)==48)=false:=by
  have O:0<(decDigits (FO p)).length:=by omega
  refine⟨(decDigits (FO p))[0],?_,?_⟩
  ·have:=E 0;rw[yU]at this;rw[this,List.getElem?_append_left (by omega)];unfold Fq;rw[List.getElem?_append_left O,List.getElem?_eq_getElem O]
  ·rw[show(48:Int)=((48:Nat):Int) from rfl,Hq (by omega),zL];intro e;cases hD:decDigits (FO p)with
   |nil=>rw[hD]at O;simp at O
   | cons c r=>
    have e:c=48:=by simpa[hD]using e
    subst e;rw[hD]at f1 f2;rw[zR,zh]at f1;have H:=Kl f1.2 (n:=r.length) (zC _);have:Dr (48::r)=Dr r:=rfl;rw[this]at f2;obtain⟨k1,k2,k3,k4⟩:=Ux p (by have:=h.b;omega);have hb3:3≤bare p:=by unfold bare;omega
    have hm:=FB r.length (FO p) (by
     rcases yv r.length with e|e
     ·rw[e,xN]at H;omega
     ·exact e) (by omega)
    rw[hD,zt]at hm;omega
 obtain⟨c0,hc0,hne0⟩:=N;have h32:s[A.length+(decDigits (FO p)).length]?=some 32:=by
  rw[E,List.getElem?_append_left (by omega)];unfold Fq;rw[List.getElem?_append_right (by omega),yV];rfl
 have h10:s[A.length+(Fq p).length - 1]?=some 10:=by
  rw[show A.length+(Fq p).length - 1=A.length+(decDigits (FO p)).length+1+(p.Key.length+p.Value.length+1) by omega,I _ (by omega),List.getElem?_append_right (by omega),List.getElem?_append_right (by simp;omega),List.getElem?_append_right (by simp;omega),show p.Key.length+p.Value.length+1 - p.Key.length - ([61]:List UInt8).length - p.Value.length=0 by simp;omega];rfl
 unfold B5;dsimp only;rw[zf (show(A.length:Int)<(s.length:Int) by omega),AQ,show((l.length:Int)==256)=false from by rw[zL];omega,AK,dB h G (by omega),za];dsimp only;rw[DK (x:=(A.length:Int)+6) (by omega) (by omega),show((((A.length+(decDigits (FO p)).length:Nat):Int)==(A.length:Int))||decide (((A.length+(decDigits (FO p)).length:Nat):Int)>(A.length:Int)+6))=false from by rw[zH,zL,zx];omega,AK,FX hc0,za,za,hne0,yJ,show(((A.length+(decDigits (FO p)).length:Nat):Int)==(s.length:Int))=false from by rw[zL];omega,AK,FX h32,za,za,show((((32:UInt8).toNat:Nat):Int) !=32)=false from rfl,AK];rw[DK (x:=(s.length:Int) - (A.length:Int)) (by omega) (by omega),zi (show ¬(FO p:Int)>(s.length:Int) - (A.length:Int) by omega),AK];rw[DK (x:=(A.length:Int)+(FO p:Int)) (by omega) (by omega),DK (x:=(A.length:Int)+(FO p:Int) - 1) (by omega) (by omega),zi (show ¬(A.length:Int)+(FO p:Int) - 1≤((A.length+(decDigits (FO p)).length:Nat):Int) by omega),AK];rw[show(A.length:Int)+(FO p:Int) - 1=((A.length+(Fq p).length - 1:Nat):Int) by omega,FX h10,za,za,show((((10:UInt8).toNat:Nat):Int) !=10)=false from rfl,AK];rw[DP (by omega),cu h G (by omega),za];rw[show((((A.length+(decDigits (FO p)).length+1+p.Key.length:Nat):Int)==((A.length+(Fq p).length - 1:Nat):Int))||(((A.length+(decDigits (FO p)).length+1+p.Key.length:Nat):Int)==((A.length+(decDigits (FO p)).length+1:Nat):Int)))=false from by rw[zH,zL,zL];omega,AK];have hdr:s.drop (A.length+(decDigits (FO p)).length+1)=p.Key++([61]++(p.Value++([10]++B))):=by
  rw[G,show A.length+(decDigits (FO p)).length+1=A.length+((decDigits (FO p)).length+1) by omega,yi];unfold Fq;rw[zw,yi];simp
 rw[Iq (by omega) (by omega),za,hdr,show A.length+(decDigits (FO p)).length+1+p.Key.length - (A.length+(decDigits (FO p)).length+1)=p.Key.length by omega,yW];rw[DP (by omega),Iq (by omega) (by omega),za];have hdr2:s.drop (A.length+(decDigits (FO p)).length+1+p.Key.length+1)=p.Value++([10]++B):=by
  rw[show A.length+(decDigits (FO p)).length+1+p.Key.length+1=A.length+(decDigits (FO p)).length+1+(p.Key.length+1) by omega,←qm,hdr,yi];simp
 rw[hdr2,show A.length+(Fq p).length - 1 - (A.length+(decDigits (FO p)).length+1+p.Key.length+1)=p.Value.length by omega,yW,show MY 32 (l.length+([(⟨p.Key,p.Value⟩:AA)]:List AA).length)=true from GZ (by simp;omega) (by simp;omega),Ak];rw[show(A.length:Int)+(FO p:Int)=((A.length+(Fq p).length:Nat):Int) by omega]
end
theorem W1(a b:List Pr):B4 (a++b)=B4 a++B4 b:=by unfold B4;rw[yn,yP]
theorem W8{l:List Pr}(hl:l.length≤20)(h:∀p∈l,Ky p):C7 (B4 l)=some (l,0):=by
 have hlen:=GN h;unfold C7;rw[zi (by omega),AK];have key:loop (B5 (B4 l)) (([]:List Pr),(0:Int))=some (.inl l):=by
  refine W.eq (W.mono (W.list (l:=l) (fun(_:Unit) (i:Nat)=>(l.take i,((B4 (l.take i)).length:Int))) (fun _ _=>True) ?_ ?_ () trivial) fun r H=>H)
  ·intro _ _;rw[z8];unfold B5;dsimp only;rw[zi (by omega),AK];exact W.ret rfl
  ·intro _ i hi _;have hsp:B4 l=B4 (l.take i)++(Fq l[i]++B4 (l.drop (i+1))):=by
    conv=>lhs;rw[←zM i l,zP hi,W1]
    rfl
   refine⟨_,ZR (h _ (zS hi)) hsp (by omega) (by rw[zA];omega),(),?_,trivial⟩;rw[Da (List.getElem?_eq_getElem hi),Kc,ze]
 rw[key,za]
end Go.Av.L
end
/-
 A part.
-/
section
namespace Go.Av.L
open Go.Av Go.Lib
set_option linter.unusedVariables false
set_option linter.unusedSimpArgs false
set_option maxRecDepth 10000
structure PV(m:Mem):Prop where
 x:m.Extra.length≤12
 e:∀p∈m.Extra,p.Key.length≤300∧p.Value.length≤300
 n:m.Name.length≤600
 l:m.Ah.length≤600
 u:m.AZ.length≤100
 g:m.Ad.length≤100
theorem ZT(m:Mem):W (DZ m) fun b=>b=false→PV m:=by
 by_cases hm12:m.Extra.length>12
 ·unfold DZ ET;rw[zf (show(m.Extra.length:Int)>12 by omega),AQ,za];exact W.ret fun h=>by simp at h
 have hm:m.Extra.length≤1000000:=by omega
 have G:∀i:Nat,i<m.Extra.length→CQ m.Extra (i:Int)=some (if(!(decide ((m.Extra.getD i US).Key.length>300)||decide ((m.Extra.getD i US).Value.length>300)))=true then .inl ((i+1:Nat):Int)else .inr (.inr true)):=fun i hi=>by
  unfold CQ;dsimp only;rw[zf (by omega),AQ,EH hi,za,za,Va,za,DP (by omega),getD_at hi,show decide ((m.Extra[i].Key.length:Int)>300)=decide (m.Extra[i].Key.length>300) from by rw[yG];omega,show decide ((m.Extra[i].Value.length:Int)>300)=decide (m.Extra[i].Value.length>300) from by rw[yG];omega];cases(decide (m.Extra[i].Key.length>300)||decide (m.Extra[i].Value.length>300))<;>rfl
 have hend:CQ m.Extra (m.Extra.length:Int)=some (.inr (.inl ())):=by
  unfold CQ;dsimp only;rw[zi (by omega),AK]
 unfold DZ ET;rw[MH hend G,za];refine W.bind (W.mono (Q:=fun b=>b=false→m.Extra.length≤12∧∀p∈m.Extra,p.Key.length≤300∧p.Value.length≤300) ?_ fun b hb=>W.ret fun h=>?_)
 ·refine W.NH (fun _=>W.ret fun h=>by cases h) fun hl=>?_;split
  ·rename_i T;split at T
   ·rename_i ha;refine W.ret fun _=>⟨by omega,fun p hp=>?_⟩;rw[zn]at ha;obtain⟨i,hi,rfl⟩:=yA hp;have:=ha i (zO.2 hi);rw[getD_at hi]at this;simp only[zK,zH,zx]at this;omega
   ·cases T
  ·rename_i b T;split at T
   ·cases T
   ·refine W.ret fun h=>?_;injection T with T;rw[←T]at h;cases h
 ·simp only[zH,zx]at h;obtain⟨⟨⟨⟨⟨h1,h2⟩,h3⟩,h4⟩,h5⟩,h6⟩:=h;obtain⟨b1,b2⟩:=hb h1;exact⟨b1,b2,by omega,by omega,by omega,by omega⟩
theorem ZF{n:Int}(h:0≤n)(h2:n≤9007199254740991):(Lib.itoa n).length≤16:=(NO h h2).2
theorem Nn{m:Mem}{n:Int}{ts:IH}(R:Ho m)(B:PV m)(D:0≤n∧n≤1099511627776)(ht:ts.length≤60):(lW m n ts).length≤20∧∀p∈lW m n ts,Ky p:=by
 obtain⟨k1,k2,k3⟩:=NV m n ts;have hp:=Nc m n ts;have b1:=B.x;have b3:=B.n;have b4:=B.l;have b5:=B.u;have b6:=B.g;have ui:=R.ui;have gi:=R.gi;refine⟨by rw[hp.length_eq,ze];omega,fun p hpm=>?_⟩;have P:∀k∈K8,k≠[]∧(61:UInt8)∉k∧k.length≤8:=by decide
 have key:∀(k v:IH),k∈K8→v.length≤600→Ky ⟨k,v⟩:=fun k v hk hv=>by
  obtain⟨a1,a2,a3⟩:=P k hk;exact⟨a1,a2,by unfold bare;dsimp only;omega⟩
 rcases zB.1 (hp.mem_iff.1 hpm)with h|h
 ·have d1:=ZF gi.1 (by omega);have d2:=ZF D.1 (by omega);have d3:=ZF ui.1 (by omega);rcases FJ.1 h with⟨_,rfl⟩|⟨_,rfl⟩|⟨_,rfl⟩|⟨_,rfl⟩|⟨_,rfl⟩|⟨_,rfl⟩|⟨_,rfl⟩|⟨_,rfl⟩
  ·exact key _ _ (by decide) (by omega)
  ·exact key _ _ (by decide) (by omega)
  ·exact key _ _ (by decide) (by omega)
  ·exact key _ _ (by decide) (by omega)
  ·exact key _ _ (by decide) (by omega)
  ·exact key _ _ (by decide) (by omega)
  ·exact key _ _ (by decide) (by omega)
  ·exact key _ _ (by decide) (by omega)
 ·obtain⟨h1,h2,h3,h4⟩:=R.ex.2 p h;have:=B.e p h;exact⟨h2,h4,by unfold bare;omega⟩
def HQ(n:Nat):AN:=⟨([80,97,120,72,101,97,100,101,114,115]:List UInt8),([]:List UInt8),(120:Int),(420:Int),(0:Int),(0:Int),(n:Int),(0:Int),([]:List UInt8),([]:List UInt8),(0:Int),(0:Int),(0:Int)⟩
theorem Zu{n:Nat}(h:n<8589934592):∃p q,Fit (HQ n) p q:=
 JJ.fit ⟨by kernel_rfl,by kernel_rfl,by kernel_rfl,by kernel_rfl,⟨_,_,.inl ⟨by simp[HQ],rfl⟩⟩,by simp[HQ],by simp[HQ],by simp[HQ],by simp[HQ],by simp[HQ],by simp[HQ],by simp[HQ];omega,by simp[HQ],by simp[HQ],by simp[HQ]⟩ (by simp[HQ]) (by simp[HQ])
def dx(s:List UInt8):Prop:=∃h p q,Fit h p q∧s=(DV h p q).flatten
theorem Yx{h:AN}{p q:List UInt8}(F:Fit h p q):dx (DV h p q).flatten:=⟨h,p,q,F,rfl⟩
theorem dx.len{s:List UInt8}(h:dx s):s.length=512:=by
 obtain⟨h,p,q,F,rfl⟩:=h;exact F.shape.flat
def km(m:Mem)(k:Int):Mem:=⟨m.Name,m.Ah,k,m.Mode,m.BO,m.BW,m.AZ,m.Ad,m.Aj,m.Ao,m.Time,m.Extra,m.Data⟩
end Go.Av.L
end
/-
 A part.
-/
section
namespace Go.Av.L
open Go.Av Go.Lib
set_option linter.unusedVariables false
set_option linter.unusedSimpArgs false
set_option maxRecDepth 10000
structure Hd(m:Mem)(n:Int)(s:List UInt8):Prop where
 sh:PV m
 r:Gu m=0
 k:48≤m.Kind∧m.Kind≤55
 sz:n=0∨m.Kind=48∨m.Kind=55
 nn:0≤n∧n≤1099511627776
 ex:∃ts p q,Bp m.Time.Bu m.Time.BG=some ts∧BJ ts=some (m.Time.Bu,m.Time.BG,0)∧(1≤ts.length∧ts.length≤60)∧Fit (hB m n) p q∧
  ((B4 (lW m n ts)=[]∧s=(DV (hB m n) p q).flatten)∨∃pp pq,B4 (lW m n ts)≠[]∧Fit (HQ (B4 (lW m n ts)).length) pp pq∧s=(DV (HQ (B4 (lW m n ts)).length) pp pq).flatten++(E6 (B4 (lW m n ts))++(DV (hB m n) p q).flatten))
theorem Hd.len{m:Mem}{n:Int}{s:List UInt8}(h:Hd m n s):s.length≤100000:=by
 have R:=KK h.r;obtain⟨ts,p,q,t1,t2,t3,F,h2⟩:=h.ex;obtain⟨c1,c2⟩:=Nn (n:=n) (ts:=ts) R h.sh h.nn t3.2;have hlen:=GN c2;have hpl:=G9 (B4 (lW m n ts));rcases h2 with⟨_,e⟩|⟨pp,pq,_,PF,e⟩
 ·rw[e,F.shape.flat];omega
 ·rw[e,ze,ze,F.shape.flat,PF.shape.flat];omega
theorem Xf{m:Mem}{n:Int}(B:PV m):W (Gf m n) fun r=>r.2=0→Hd (km m (if m.Kind=0 then 48 else m.Kind)) n r.1:=by
 unfold Gf;have hk:(AX (m.Kind==0) (some (48:Int)) (some m.Kind):Option ((Int)))=some (if m.Kind=0 then 48 else m.Kind):=by
  rw[Lm];split<;>rfl
 rw[hk,za];generalize (if m.Kind=0 then(48:Int)else m.Kind)=k;have B':PV (km m k):=⟨B.x,B.e,B.n,B.l,B.u,B.g⟩;rw[show(⟨m.Name,m.Ah,k,m.Mode,m.BO,m.BW,m.AZ,m.Ad,m.Aj,m.Ao,m.Time,m.Extra,m.Data⟩:AJ)=km m k from rfl];have P:(km m k).Kind=k:=rfl;generalize km m k=m' at *;have b1:=B'.x;have b3:=B'.n;have b4:=B'.l;have b5:=B'.u;have b6:=B'.g;have hright:=S9 m' (by omega);unfold HC;rw[hright,za];by_cases H:Gu m'=0
 rotate_left
 ·rw[show(Gu m' !=0)=true from bne_iff_ne.2 H,AQ,za,show(Gu m' !=0)=true from bne_iff_ne.2 H,AQ];exact W.ret fun h=>absurd h H
 rw[H,show((0:Int) !=0)=false from rfl,AK,P];by_cases J:(decide (k<48)||decide (k>55))=true
 ·rw[J,AQ,za,show((5:Int) !=0)=true from rfl,AQ];exact W.ret fun h=>by cases h
 rw[qf]at J;rw[J,AK];have hsz:((AX ((decide (n<0))||(decide (n>1099511627776))) (some true) ((AX (n !=0) ((GG k).bind fun x4=>some (!x4)) (some false):Option (Bool)).bind fun x3=>some x3):Option (Bool)).bind fun x2=>AX x2 (some (6:Int)) (some (0:Int)))=some (if(((decide (n<0))||(decide (n>1099511627776)))||(((n !=0)&&(k !=48))&&(k !=55)))=true then 6 else 0):=by
  unfold GG;rw[za,show(k !=48)= !(k==48) from rfl,show(k !=55)= !(k==55) from rfl];cases(decide (n<0)||decide (n>1099511627776))<;>cases(n !=0)<;>cases(k==48)<;>cases(k==55)<;>rfl
 rw[hsz,za];by_cases C:(((decide (n<0))||(decide (n>1099511627776)))||(((n !=0)&&(k !=48))&&(k !=55)))=true
 ·rw[zm C,show((6:Int) !=0)=true from rfl,AQ];exact W.ret fun h=>by cases h
 rw[zk C,show((0:Int) !=0)=false from rfl,AK];have D:0≤n∧n≤1099511627776:=by
  rw[qf]at C;simp only[zH,zx]at C;omega
 have hnz:n=0∨k=48∨k=55:=by
  rw[qf]at C;simp only[zH,yb,bne_eq_false_iff_eq]at C;rcases C.2 with(h|h)|h
  ·exact .inl h
  ·exact .inr (.inl h)
  ·exact .inr (.inr h)
 have hk2:48≤k∧k≤55:=by
  simp only[zH,zx]at J;omega
 have R:=KK H;obtain⟨ts,t1,t2,t3,t4⟩:=Xh R.ti;obtain⟨r0,Z,_,U⟩:=TE R.ti;rw[show DO m'.Time=some (ts,0) from t1]at Z;obtain rfl:=zJ Z;dsimp only at U;have hce:Pn m' n=0:=by unfold Pn;rw[zm H,zm ⟨D.1,by omega⟩]
 obtain⟨e1,e2⟩:=head_eq hce R (by omega) (by omega) ⟨D.1,by omega⟩ t1;obtain⟨_,FP⟩:=Vu (n:=n) R (by omega) ⟨D.1,by omega⟩ t1;obtain⟨c1,c2⟩:=Nn (n:=n) (ts:=ts) R B' D t4;have hlen:=GN c2;have e4:=YI c1 c2;have hnm:(hB m' n).Name.length≤1000000:=by
  show(if c5 m' then m'.Name else[]).length≤_;split
  ·omega
  ·simp
 obtain⟨p,q,F⟩:=FP.fit hnm (by show 0≤m'.Kind∧m'.Kind≤255;omega);have g1:=TP F;have hbl:=Yx F;have hbl5:=hbl.len;rw[e2,za];dsimp only;unfold Fy;rw[e4,za,e1];simp only[za];rw[g1];simp only[za];have hd:∀s,((B4 (lW m' n ts)=[]∧s=(DV (hB m' n) p q).flatten)∨∃pp pq,B4 (lW m' n ts)≠[]∧Fit (HQ (B4 (lW m' n ts)).length) pp pq∧s=(DV (HQ (B4 (lW m' n ts)).length) pp pq).flatten++(E6 (B4 (lW m' n ts))++(DV (hB m' n) p q).flatten))→Hd m' n s:=
  fun s h=>⟨B',H,by omega,by rw[P];exact hnz,D,ts,p,q,t2,U,⟨t3,t4⟩,F,h⟩
 generalize B4 (lW m' n ts)=rs at *;generalize (DV (hB m' n) p q).flatten=blk at *;rw[show((0:Int) !=0)=false from rfl,yJ];by_cases N:rs=[]
 ·subst N;rw[show(([]:List UInt8)==([]:List UInt8))=true from rfl,AQ,za];dsimp only;rw[show((0:Int) !=0)=false from rfl,AK,join_eq (by simp) (by omega),za];exact W.ret fun _=>hd _ (.inl ⟨rfl,rfl⟩)
 ·obtain⟨pp,pq,PF⟩:=Zu (n:=rs.length) (by omega);have g3:=TP PF;have hpb:=Yx PF;have hpb5:=hpb.len;have hpl:=G9 rs;rw[show(rs==[])=false from beq_eq_false_iff_ne.2 N,AK];rw[show(⟨([80,97,120,72,101,97,100,101,114,115]:List UInt8),([]:List UInt8),(120:Int),(420:Int),(0:Int),(0:Int),(rs.length:Int),(0:Int),([]:List UInt8),([]:List UInt8),(0:Int),(0:Int),(0:Int)⟩:AN)=HQ rs.length from rfl,g3,za];dsimp only;rw[bF (by omega),za];have key:=hd ((DV (HQ rs.length) pp pq).flatten++(E6 rs++blk)) (.inr ⟨pp,pq,N,PF,rfl⟩);generalize (DV (HQ rs.length) pp pq).flatten=pb at *;rw[join_eq (by omega) (by omega),za,za];dsimp only;rw[show((0:Int) !=0)=false from rfl,AK,join_eq (by rw[ze];omega) (by omega),za];exact W.ret fun _=>by rw[zw];exact key
end Go.Av.L
end
