/-
  Several texts in one.
-/
import Derived.Test.YtfgmnhjedmkpeaaAbM
set_option linter.unusedSimpArgs false
/-
 A part.
-/
section
namespace Go.Av.L
open Go.Av Go.Lib
set_option linter.unusedVariables false
set_option linter.unusedSimpArgs false
def JV(n:AS):Abs.L.Nd:=⟨n.Kind,n.A,n.B,n.Min,n.Max,n.Bl,n.S⟩
theorem O4:∀ns:List AS,Ux (Ag AD ns)=some ((ns.map JV).flatMap Abs.L.HV)
 |[]=>rfl
 |n::ns=>by
  have ih:Ux (List.flatMap AD ns)=_:=O4 ns;rw[Ag,yp];simp only[AD,yU,yg,Ux,Xq,ih,zd,ze];rfl
theorem Te{C:Abs.Eu}{g:Abs.Gd}{h h1 E:Abs.AB}{f:Nat}{zs:List Abs.AA}{v1 v2:Abs.AA}(k1:Abs.CW C g h f zs v1 h1)(k2:Abs.CW C g h f zs v2 E):v1=v2/\h1=E:=by
 obtain⟨n,k1⟩:=k1;obtain⟨m,k2⟩:=k2;have a:=(Abs.DM C (yL n m)).1 _ _ _ _ _ k1;have b:=(Abs.DM C (yI n m)).1 _ _ _ _ _ k2;rw[a]at b;exact⟨(qA (zK b)).1,(qA (zK b)).2⟩
theorem SK{cs:List Abs.AA}{n:Nat}{r a:Int}{s:List UInt8}{i:Int}{bs bs':List Bool}(h1:QA cs n r a s i bs)(E:QA cs n r a s i bs'):bs=bs':=by
 obtain⟨m1,id1,k1,g1,_⟩:=h1;obtain⟨m2,id2,k2,g2,_⟩:=E;obtain⟨ev,rfl⟩:=Te k1 k2;injection ev with e1 _;injection e1 with e1;injection e1 with e1 _;subst e1;rw[g1]at g2;injection g2 with g2;injection g2 with _ _ g2;have P:=congrArg (List.map λv=>match v with|Abs.AA.bool b=>b|_=>false) g2;simpa[Function.comp_def]using P
theorem PA{ns:List AS}{root:Int}{s:List UInt8}(hs:s.length<=1000)(hc:ns.length<=1024)(may:∀(i:Nat) n,(ns.map JV)[i]?=some n->Abs.L.Uy n i)(oks:∀n∈ns.map JV,Abs.L.YF n){a i:Nat}(I:a<ns.length)(F:i<=s.length):
  ∃bs,Je (Ag AD ns) ns.length root (a:Int) s (i:Int)=some bs/\bs.length=s.length+1/\∀j,j<=s.length->(bs[j]?=some true↔Abs.L.Mt (ns.map JV) s a 0 i j):=by
 have hlen:(ns.map JV).length=ns.length:=by simp
 have hfl:((ns.map JV).flatMap Abs.L.HV).length=ns.length*7:=by rw[Abs.Hy Abs.L.LP,hlen]
 have own:Abs.L.Nj (hE ((ns.map JV).flatMap Abs.L.HV)) 7 ⟨some (0,0),ns.length⟩ ((ns.map JV).flatMap Abs.L.HV):=⟨hfl,.inr ⟨0,[],rfl,by rw[z9];exact Abs.AB.A8 _ _⟩⟩;obtain⟨⟨r1,r2⟩,em,O,bs,e1,lb,bo,H⟩:=Abs.L.Od (f:=1) (root:=root) own (zr 1) hs (by omega) may oks (a:=a) (i:=i) (by omega) F;have J:=Abs.L.J5 em;dsimp only at e1 bo;subst e1;have Y:QA ((ns.map JV).flatMap Abs.L.HV) ns.length root (a:Int) s (i:Int) bs:=⟨r2,O,by rw[lb];exact J,bo.get,by intro e;rw[e]at lb;simp at lb⟩;have hex:((ns.map JV).flatMap Abs.L.HV)≠[]/\∃bs,QA ((ns.map JV).flatMap Abs.L.HV) ns.length root (a:Int) s (i:Int) bs:=⟨λe=>by rw[e]at hfl;simp at hfl;omega,bs,Y⟩;refine⟨bs,?_,lb,H⟩;unfold Je;rw[O4];dsimp only;rw[dif_pos hex];congr 1;exact SK hex.2.choose_spec Y
theorem QJ{ns:List Abs.L.Nd}{s:List UInt8}{x:Nat}:∀{r i j:Nat},Abs.L.It ns s x r i j↔PX (λi j=>Abs.L.Mt ns s x 0 i j) r i j
 |0,i,j=>⟨λh=>by cases h;rfl,λh=>by have h:j=i:=h;subst h;exact .z⟩
 |r+1,i,j=>⟨λh=>by cases h with|s m h=>exact⟨_,m,QJ.1 h⟩,λ⟨k,m,h⟩=>.s m (QJ.2 h)⟩
theorem ML{R R':Nat->Nat->Prop}{N:Nat}(h:∀i j,i<=N->(R i j↔R' i j))(hle:∀i j,i<=N->R' i j->j<=N):∀(c i j:Nat),i<=N->(PX R c i j↔PX R' c i j)
 |0,_,_,_=>Iff.rfl
 |c+1,i,j,F=>⟨λ⟨k,m,r⟩=>⟨k,(h i k F).1 m,(ML h hle c k j (hle i k F ((h i k F).1 m))).1 r⟩,λ⟨k,m,r⟩=>⟨k,(h i k F).2 m,(ML h hle c k j (hle i k F m)).2 r⟩⟩
theorem Qu(n:AN)(b:UInt8):Abs.L.hasB (JV (Dr n)) b.toNat=true↔Kp n.Set (b.toNat:Int)=true:=by
 unfold Abs.L.hasB JV Dr K9 I2;dsimp only;rw[y7];constructor
 ·rintro⟨x,G,H⟩;obtain⟨k,D,rfl⟩:=zN.1 G;obtain⟨h1,E⟩:=yi.1 D;have h1:=yf.1 h1;have e:(UInt8.ofNat k).toNat=k%256:=UInt8.toNat_ofNat';rw[e,y6 h1,z3]at H;rw[<-H];exact E
 ·intro h;have:=b.toNat_lt;refine⟨UInt8.ofNat b.toNat,zN.2 ⟨b.toNat,yi.2 ⟨yf.2 this,h⟩,rfl⟩,?_⟩;have e:(UInt8.ofNat b.toNat).toNat=b.toNat%256:=UInt8.toNat_ofNat';rw[e,y6 this];simp
theorem Ym{t:AL}(R:Hk t)(s:List UInt8):∀(a:Nat),a<t.Ad.length->∀i j,i<=s.length->(Abs.L.Mt ((t.Ad.map Dr).map JV) s a 0 i j↔Tm t s a i j):=by
 intro a
 induction a using Nat.strongRecOn with
 |_ a IH=>
 intro I i j F;have T:=R.r;obtain⟨n,K⟩:∃n,t.Ad[a]?=some n:=⟨_,List.getElem?_eq_getElem I⟩;have G:((t.Ad.map Dr).map JV)[a]?=some (JV (Dr n)):=by rw[List.getElem?_map,List.getElem?_map,K];rfl
 obtain⟨g1,g2,g3,g4,g5,g6,g7,g8,g9,g10,g11⟩:=R.2.2.2 a n K;rw[TP T K];dsimp only;have D:n.Kind=0\/n.Kind=1\/n.Kind=2\/n.Kind=3\/n.Kind=4\/n.Kind=5\/n.Kind=6\/n.Kind=7:=by omega
 rcases D with D|D|D|D|D|D|D|D
 ·rw[Abs.L.Yg G D];rw[zh (by omega),zh (by omega),zh (by omega),zh (by omega),zh (by omega),zh (by omega),zh (by omega)]
 ·rw[Abs.L.inv1 G D,zk D];constructor
  ·rintro⟨rfl,b,H,h⟩;exact⟨b,H,(Qu n b).1 h,rfl⟩
  ·rintro⟨b,H,h,rfl⟩;exact⟨rfl,b,H,(Qu n b).2 h⟩
 ·have hA:=g3 (by omega);have hB:=g5 (by omega);rw[Abs.L.inv2 (x:=n.A.toNat) (y:=n.B.toNat) G D (by show n.A=_;omega) (by show n.B=_;omega),zh (by omega),zh (by omega),zh (by omega),zk D];constructor
  ·rintro⟨k,m1,m2⟩;have q:=(IH n.A.toNat (by omega) (by omega) i k F).1 m1;exact⟨k,q,(IH n.B.toNat (by omega) (by omega) k j (N0 T s _ _ _ F q).2).1 m2⟩
  ·rintro⟨k,q,m2⟩;exact⟨k,(IH n.A.toNat (by omega) (by omega) i k F).2 q,(IH n.B.toNat (by omega) (by omega) k j (N0 T s _ _ _ F q).2).2 m2⟩
 ·have hA:=g3 (by omega);have hB:=g5 (by omega);rw[Abs.L.Yq (x:=n.A.toNat) (y:=n.B.toNat) G D (by show n.A=_;omega) (by show n.B=_;omega),zh (by omega),zh (by omega),zh (by omega),zh (by omega),zk D];rw[IH n.A.toNat (by omega) (by omega) i j F,IH n.B.toNat (by omega) (by omega) i j F]
 ·have hA:=g3 (by omega);have hM:=g8 D;rw[Abs.L.RD (x:=n.A.toNat) G D (by show n.A=_;omega) hM.1 hM.2.2.2.2,zh (by omega),zh (by omega),zh (by omega),zh (by omega),zh (by omega),zh (by omega),zk D];have key:∀r,Abs.L.It ((t.Ad.map Dr).map JV) s n.A.toNat r i j↔PX (Tm t s n.A.toNat) r i j:=λr=>
   QJ.trans (ML (N:=s.length) (λi j F=>IH n.A.toNat (by omega) (by omega) i j F) (λi j F q=>(N0 T s _ _ _ F q).2) r i j F)
  constructor
  ·rintro⟨r,h1,E,P⟩;have h1:n.Min<=(r:Int):=h1;have E:0<=n.Max->(r:Int)<=n.Max:=E;exact⟨r,h1,by omega,(key r).1 P⟩
  ·rintro⟨r,h1,E,P⟩;exact⟨r,h1,λh0=>by have h0:0<=n.Max:=h0;show(r:Int)<=n.Max;omega,(key r).2 P⟩
 ·have hA:=g3 (by omega);rw[Abs.L.XR (x:=n.A.toNat) G D (by show n.A=_;omega),zh (by omega),zh (by omega),zh (by omega),zh (by omega),zh (by omega),zk D];exact IH n.A.toNat (by omega) (by omega) i j F
 ·rw[Abs.L.Xd G D,zh (by omega),zk D];constructor<;>(rintro⟨rfl,rfl⟩;exact⟨rfl,rfl⟩)
 ·rw[Abs.L.Xt G D,zh (by omega),zh (by omega),zk D];constructor
  ·rintro⟨rfl,rfl⟩;exact⟨rfl,rfl⟩
  ·rintro⟨rfl,rfl⟩;exact⟨rfl,rfl⟩
theorem WJ{t:AL}(R:Hk t){s:List UInt8}(hs:s.length<=1000){a i:Nat}(I:a<t.Ad.length)(F:i<=s.length){root:Int}:
  ∃bs,Je (Ag AD (t.Ad.map Dr)) (t.Ad.map Dr).length root (a:Int) s (i:Int)=some bs/\bs.length=s.length+1/\∀j,j<=s.length->(bs[j]?=some true↔Tm t s a i j):=by
 have hm1:∀(i:Nat) n,((t.Ad.map Dr).map JV)[i]?=some n->Abs.L.Uy n i:=by
  intro i n K;rw[List.getElem?_map,List.getElem?_map,Option.map_map,zg]at K;obtain⟨m,hm,rfl⟩:=K;obtain⟨g1,g2,g3,g4,g5,g6,g7,g8,g9,g10,g11⟩:=R.2.2.2 i m hm;exact⟨g1,g2,g3,g4,g5,g6,trivial,g8,g9,g10,g11⟩
 have hm2:∀n∈(t.Ad.map Dr).map JV,Abs.L.YF n:=by
  intro n K;obtain⟨m,hm,rfl⟩:=zN.1 K;obtain⟨k,D,rfl⟩:=zN.1 hm;exact NF _ 256
 obtain⟨bs,h1,E,P⟩:=PA (ns:=t.Ad.map Dr) (root:=root) hs (by rw[yh];exact R.1) hm1 hm2 (a:=a) (i:=i) (by rw[yh];exact I) F;exact⟨bs,h1,E,λj hj=>(P j hj).trans (Ym R s a I i j F)⟩
end Go.Av.L
end
/-
 A part.
-/
section
namespace Go.Av.L
open Go.Av Go.Lib
set_option linter.unusedVariables false
set_option linter.unusedSimpArgs false
theorem min_mul{w a c M:Nat}(h:min w M<=a)(hc:1<=c):min ((w+1)*c) M<=(a+1)*c:=by
 by_cases hw:w<=a
 ·exact zM (qF _ _) (yr _ (by omega))
 ·have:a+1<=(a+1)*c:=Nat.le_mul_of_pos_right _ hc;omega
theorem XC(a b:Nat):mn (a:Int) (b:Int)=((min a b:Nat):Int):=by
 unfold mn;split<;>omega
def ZZ(t:AL)(M r:Nat)(x:List Int×Int):Prop:=∃i:Nat,x.2=(i:Int)/\i<=r+1/\x.1.length=i/\∀j,j<i->∃v:Nat,x.1[j]?=some (v:Int)/\v<=M/\min (wg t j) M<=v
theorem RO{t:AL}(R:Hk t):W (Cp ⟨t.Ad.map Dr,t.A2⟩ t.A2) λx=>4096<=wg t t.A2.toNat->x>2047:=by
 have T:=R.r;obtain⟨r,J⟩:=zB R.2.1;have J:t.A2=(r:Int):=J;have hrl:r<t.Ad.length:=by have:=R.2.2.1;omega
 have hl:=R.1;obtain⟨M,hM⟩:∃M:Nat,(1048576:Int)=(M:Int):=⟨1048576,rfl⟩;unfold Cp;rw[J,zu];refine AP (W.mono (W.loop (λx=>ZZ t M r x) (λx=>(r+1 - x.2).toNat) ⟨0,rfl,by omega,rfl,λj hj=>by omega⟩ ?_ (Q:=λl=>∃v:Nat,l[r]?=some (v:Int)/\min (wg t r) M<=v)) ?_)
 ·rintro⟨l,x2⟩ ⟨i,F,h1,E,P⟩;dsimp only at F E P;subst F;unfold Es;dsimp only;refine Bq (λhle=>?_) λhgt=>AH ?_
  ·have hir:i<=r:=by omega
   obtain⟨n,K⟩:∃n,t.Ad[i]?=some n:=⟨_,List.getElem?_eq_getElem (by omega)⟩;rw[Ij (x:=Dr n) (by rw[List.getElem?_map,K];rfl),zd];obtain⟨g1,g2,g3,g4,g5,g6,g7,g8,g9,g10,g11⟩:=R.2.2.2 i n K;have child:∀q:Int,0<=q->q<i->∃v:Nat,Iz l q=some (v:Int)/\v<=M/\min (wg t q.toNat) M<=v:=by
    intro q h0 h1;obtain⟨k,rfl⟩:=zB h0;obtain⟨v,e,Z⟩:=P k (by omega);exact⟨v,Ij e,Z⟩
   have fin:∀v:Nat,W (Gv (O0 8 (l.length+([mn (v:Int) (1048576:Int)]:List Int).length))<|some (.inl ((l++([mn (v:Int) (1048576:Int)]:List Int)),IntKind.i64.wrap ((i:Int)+1)):((List Int)×Int)⊕(List Int))) λo=>o=.inl (l++[((min v M:Nat):Int)],((i+1:Nat):Int)):=by
    intro v;refine Dc (GR (by simp;omega) (by simp;omega)) (AH ?_);rw[G4 (by omega),hM,XC]
   have Sf:∀v:Nat,min (wg t i) M<=v->ZZ t M r (l++[((min v M:Nat):Int)],((i+1:Nat):Int))/\(r+1 - ((i+1:Nat):Int)).toNat<(r+1 - (i:Int)).toNat:=by
    intro v Z;refine⟨⟨i+1,rfl,by omega,by simp[E],λj hj=>?_⟩,by omega⟩;dsimp only;by_cases e:j<i
    ·rw[List.getElem?_append_left (by omega)];exact P j e
    ·have:j=l.length:=by omega
     subst this;refine⟨min v M,by simp,by omega,?_⟩;rw[E];omega
   have go:∀v:Nat,min (wg t i) M<=v->∀{Q:((List Int)×Int)⊕(List Int)->Prop},(∀x,ZZ t M r x/\(r+1 - x.2).toNat<(r+1 - (i:Int)).toNat->Q (.inl x))->W (Gv (O0 8 (l.length+([mn (v:Int) (1048576:Int)]:List Int).length))<|some (.inl ((l++([mn (v:Int) (1048576:Int)]:List Int)),IntKind.i64.wrap ((i:Int)+1)):((List Int)×Int)⊕(List Int))) Q:=λv Z Q hQ=>
    (fin v).mono λo ho=>by rw[ho];exact hQ _ (Sf v Z)
   have U:=VT T K;unfold Dr;dsimp only;by_cases V:n.Kind=2\/n.Kind=3
   ·obtain⟨a,ea,la,I⟩:=child n.A (g3 (by omega)).1 (g3 (by omega)).2;obtain⟨b,eb,lb,H⟩:=child n.B (g5 V).1 (g5 V).2;rw[show((n.Kind==2)||(n.Kind==3))=true from by simpa using V,show(n.Kind==4)=false from by rw[z8];omega,show(n.Kind==5)=false from by rw[z8];omega,ea,eb];simp only[BU,Aq,zd];rw[Qs (x:=(a:Int)+(b:Int)) (by omega) (by omega)];rcases V with D|D
    ·rw[show(n.Kind==3)=false from by rw[z8];omega,Aq];simp only[zd];rw[show((a:Int)+(b:Int))=((a+b:Nat):Int) by omega];exact go (a+b) (by rw[U,zk D];omega) λx G=>G
    ·rw[show(n.Kind==3)=true from by simpa using D,BU];simp only[zd];rw[Qs (x:=(a:Int)+(b:Int)+1) (by omega) (by omega),show((a:Int)+(b:Int)+1)=((a+b+1:Nat):Int) by omega];exact go (a+b+1) (by rw[U,zh (by omega),zk D];omega) λx G=>G
   ·rw [show((n.Kind==2)||(n.Kind==3))=false from by rw[Bool.eq_false_iff];simpa using V];simp only[Aq,zd];by_cases X:n.Kind=4
    ·obtain⟨a,ea,la,I⟩:=child n.A (g3 (by omega)).1 (g3 (by omega)).2;have hM4:=g8 X;rw[show(n.Kind==4)=true from by simpa using X,show(n.Kind==5)=false from by rw[z8];omega,ea];simp only[BU,Aq,zd];rw[Qs (x:=(a:Int)+1) (by omega) (by omega)];by_cases G:n.Max>=0
     ·obtain⟨c,hc⟩:=zB G;have hc:n.Max=(c:Int):=hc;have hcl:(a+1)*c<=1048577*255:=Nat.mul_le_mul (by omega) (by omega);rw[zW G,BU,hc,show((a:Int)+1)*(c:Int)=(((a+1)*c:Nat):Int) by rw[qE];rfl,Qs (x:=(((a+1)*c:Nat):Int)) (by omega) (by omega),Qs (x:=(((a+1)*c:Nat):Int)+1) (by omega) (by omega)];simp only[zd];rw[show((((a+1)*c:Nat):Int)+1)=(((a+1)*c+1:Nat):Int) by omega];refine go _ ?_ λx G=>G;rw[U,zh (by omega),zh (by omega),zk X,zh (by omega),hc,zu];by_cases c0:c=0
      ·subst c0;simp;omega
      ·have:=min_mul I (c:=c) (by omega);omega
     ·obtain⟨c,hc⟩:=zB hM4.1;have hc:n.Min=(c:Int):=hc;have hcl:(a+1)*(c+1)<=1048577*256:=Nat.mul_le_mul (by omega) (by omega);rw[zX G,Aq,hc,G4 (by omega),show((a:Int)+1)*((c+1:Nat):Int)=(((a+1)*(c+1):Nat):Int) by rw[qE];rfl,Qs (x:=(((a+1)*(c+1):Nat):Int)) (by omega) (by omega)];simp only[zd];refine go _ ?_ λx G=>G;rw[U,zh (by omega),zh (by omega),zk X,zk (by omega),hc,zu];exact min_mul I (by omega)
    ·rw[show(n.Kind==4)=false from by rw[z8];omega];simp only[Aq,zd];by_cases hk5:n.Kind=5
     ·obtain⟨a,ea,la,I⟩:=child n.A (g3 (by omega)).1 (g3 (by omega)).2;rw[show(n.Kind==5)=true from by simpa using hk5,ea];simp only[BU,zd];exact go a (by rw[U,zh (by omega),zh (by omega),zh (by omega),zk hk5];exact I) λx G=>G
     ·rw[show(n.Kind==5)=false from by rw[z8];omega];simp only[Aq,zd];exact go 1 (by rw[U,zh (by omega),zh (by omega),zh (by omega),zh (by omega)];omega) λx G=>G
  ·obtain⟨v,e,_,Z⟩:=P r (by omega);exact⟨v,e,Z⟩
 ·rintro l ⟨v,e,Z⟩;rw[Ij e];refine AH λh=>?_;omega
theorem Sa:∀{a b:List Int},a.Pairwise (·<·)->b.Pairwise (·<·)->(∀x,x∈a↔x∈b)->a=b
 |[],[],_,_,_=>rfl
 |[],y::b,_,_,h=>by have:=(h y).2 (by simp);simp at this
 |x::a,[],_,_,h=>by have:=(h x).1 (by simp);simp at this
 | x::a,y::b,I,H,h=>by
  rw[List.pairwise_cons]at I H;have hxy:x=y:=by
   have h1:=(h x).1 (by simp);have E:=(h y).2 (by simp);rcases zP.1 h1 with h1|h1
   ·exact h1
   ·rcases zP.1 E with E|E
    ·exact E.symm
    ·have:=H.1 x h1;have:=I.1 y E;omega
  subst hxy;congr 1;refine Sa I.2 H.2 λz=>⟨λhz=>?_,λhz=>?_⟩
  ·have h1:=I.1 z hz;rcases zP.1 ((h z).1 (ym _ hz))with E|E
   ·omega
   ·exact E
  ·have h1:=H.1 z hz;rcases zP.1 ((h z).2 (ym _ hz))with E|E
   ·omega
   ·exact E
def P6(bs:List Bool)(k:Nat):List Int:=((List.range k).filter λj=>bs.getD j false).map λj:Nat=>(j:Int)
theorem PC(bs:List Bool)(k:Nat):P6 bs (k+1)=if bs.getD k false=true then P6 bs k++[(k:Int)]else P6 bs k:=by
 unfold P6;have e:List.filter (λj=>bs.getD j false) [k]=if bs.getD k false=true then[k]else[]:=by rw[y8,List.filter_nil]
 rw[qe,y2,e];by_cases h:bs.getD k false=true
 ·rw[zk h,zk h,yy];rfl
 ·rw[zh h,zh h,z9]
theorem Qo(bs:List Bool)(k:Nat):(P6 bs k).length<=k:=by
 unfold P6;rw[yh];exact zM (yx _ _) (by simp)
theorem U0(bs:List Bool)(k:Nat):(P6 bs k).Pairwise (·<·):=by
 unfold P6;rw[List.pairwise_map];refine List.Pairwise.filter _ ?_;exact(List.pairwise_lt_range).imp λh=>by omega
theorem RV{s:List UInt8}(hs:s.length<=1000){bs:List Bool}(lb:bs.length=s.length+1):W (loop (EF s bs) (([]:List Int),(0:Int))) λr=>r=P6 bs (s.length+1):=by
 refine W.loop (λx=>∃i:Nat,x.2=(i:Int)/\i<=s.length+1/\x.1=P6 bs i) (λx=>(s.length+1 - x.2).toNat) ⟨0,rfl,by omega,rfl⟩ ?_;rintro⟨l,x2⟩ ⟨i,F,h1,E⟩;dsimp only at F E;subst F;subst E;unfold EF;dsimp only;have hl:=Qo bs i;refine Bq (λhle=>?_) λhgt=>AH (by rw[show i=s.length+1 by omega]);have hg:bs[i]?=some (bs.getD i false):=by rw[zo,List.getElem?_eq_getElem (by omega)];rfl
 rw[Ij hg,zd,G4 (by omega)];refine AP (Bd (λht=>?_) λhf=>AH (AH ?_))
 ·refine Dc (GR (by simp;omega) (by simp;omega)) (AH (AH ?_));exact⟨⟨i+1,rfl,by omega,by rw[PC,zk ht]⟩,by dsimp only;omega⟩
 ·exact⟨⟨i+1,rfl,by omega,by rw[PC,zh (by rw[hf];decide)]⟩,by dsimp only;omega⟩
theorem PK(p0:AL){Q0:Prop}(k0:Un (λx:AN=>(Hu .i64) x.Kind/\(Hu .i64) x.A/\(Hu .i64) x.B/\(Hu .i64) x.Min/\(Hu .i64) x.Max/\(Hu .i64) x.Bl/\(λx:BB=>(Hu .u64) x.w0/\(Hu .u64) x.w1/\(Hu .u64) x.w2/\(Hu .u64) x.w3/\True) x.Set/\True) p0.Ad/\Q0)(p1:List UInt8){Q1:Prop}(k1:Q1)(p2:Int){Q2:Prop}(k2:Q2):Dx p0 p1 p2=some true:=by
 have K:=k0.1.1;have oks:∀n∈p0.Ad,Yh n.Set:=by
  intro n hm j;obtain⟨_,_,_,_,_,_,⟨h0,h1,E,P,_⟩,_⟩:=k0.1.2 n hm;unfold Ly;have z:∀x:Int,Hu .u64 x->0<=x/\x<=18446744073709551615:=λx h=>h
  match j with
  |0=>exact z _ h0
  |1=>exact z _ h1
  |2=>exact z _ E
  |3=>exact z _ P
  |j+4=>simp
 refine W.eq ?_;unfold Dx;rw[Tw p0 K,zd];refine AP ((TO _).mono λx2 _=>?_);refine Bd (λ_=>LW rfl) λhs=>?_;simp only[zH,zl]at hs;have hl:p1.length<=8:=by have:=hs.2;omega
 rw[zd];obtain⟨b,eb,H⟩:=P3 p0;obtain⟨b8,e8,h8⟩:=Ue p0 oks;have hbb:b8=b:=by rw[yM,H,h8]
 subst hbb;cases b8 with
 | false=>
  have hB:FX p0 4096=some (none,1):=by
   unfold FX;rw[eb];rfl
  rw[hB,zd];dsimp only;rw[e8,zd];simp only[yF,BU,show((1:Int)==1)=true from rfl];exact AP ((LW (Q:=λr=>r=true) rfl).mono λr J=>AH J)
 | true=>
  have R:Hk p0:=H.1 rfl;refine AP ((Uw p0 eb).mono ?_);rintro⟨w5,x6⟩ h;cases w5 with
  |none=>
   obtain⟨rfl,hw⟩:=h;dsimp only;rw[e8,zd];simp only[zZ,Aq,show((7:Int) !=0)=true from rfl,show((7:Int)==7)=true from rfl,BU];refine AP (AP ((RO R).mono λx G=>AH ?_));rw[zW (G hw),BU];exact AP ((LW (Q:=λr=>r=true) rfl).mono λr J=>AH J)
  | some a=>
   obtain⟨rfl,hA,hP⟩:=h;dsimp only;rw[e8,zd];simp only[zZ,Aq,show((0:Int) !=0)=false from rfl];have same:∀l:List Int,l.length<=100->B5 a p1 p2=some l->CP ⟨p0.Ad.map Dr,p0.A2⟩ p1 p2=some l->W ((B5 a p1 p2).bind λx12=>(CP ⟨p0.Ad.map Dr,p0.A2⟩ p1 p2).bind λx13=>(CU x12 x13).bind λx14=>(A3 x14 ((CH).bind λx16=>some x16) (some false):Option (Bool)).bind λx15=>some x15) λr=>r=true:=by
    intro l hl h1 E;rw[h1,zd,E,zd,Uo l (by omega),zd,BU];exact AP ((LW (Q:=λr=>r=true) rfl).mono λr J=>AH J)
   by_cases J:p2<0\/p2>(p1.length:Int)
   ·have H:((decide (p2<0))||(decide (p2>(p1.length:Int))))=true:=by simpa using J
    refine same [] (by simp) ?_ ?_
    ·unfold B5;rw[H];rfl
    ·unfold CP;rw[H];rfl
   ·obtain⟨i,rfl⟩:=zB (show 0<=p2 by omega);have F:i<=p1.length:=by have:¬((i:Int)>(p1.length:Int)):=λh=>J (.inr h);omega
    obtain⟨rt,hrt⟩:=zB R.2.1;have hrl:rt<p0.Ad.length:=by have:=R.2.2.1;omega
    obtain⟨bs,ex,lb,hbs⟩:=WJ R (s:=p1) (by omega) (a:=rt) (i:=i) hrl F (root:=p0.A2);have e2:CP ⟨p0.Ad.map Dr,p0.A2⟩ p1 (i:Int)=some (P6 bs (p1.length+1)):=by
     unfold CP;dsimp only;rw[show((decide ((i:Int)<0))||(decide ((i:Int)>(p1.length:Int))))=false from by rw[Bool.eq_false_iff];simpa using J,Aq];have ex':Je (Ag AD (p0.Ad.map Dr)) (p0.Ad.map Dr).length p0.A2 p0.A2 p1 (i:Int)=some bs:=by
      rw[hrt]at ex⊢;exact ex
     rw[ex',zd,(RV (by omega) lb).eq];rfl
    have e1:P6 bs (p1.length+1)=Kk a p1 i:=by
     refine Sa (U0 _ _) (R3 _ _ _) λx=>?_;have mem:∀k:Nat,k<=p1.length->((k:Int)∈P6 bs (p1.length+1)↔(k:Int)∈Kk a p1 i):=by
      intro k D;rw[Rw hA p1 F k,hP p1 i F k,hrt,zu,<-hbs k D];unfold P6;rw[zN];constructor
      ·rintro⟨j,hj,e⟩;have:j=k:=by omega
       subst this;have:=(yi.1 hj).2;rw[zo,List.getElem?_eq_getElem (by omega)]at this;rw[List.getElem?_eq_getElem (by omega)];simpa using this
      ·intro h;refine⟨k,yi.2 ⟨yf.2 (by omega),?_⟩,rfl⟩;rw[zo,h];rfl
     constructor
     ·intro G;have hx':=G;unfold P6 at hx';obtain⟨k,D,rfl⟩:=zN.1 hx';have:=yf.1 (yi.1 D).1;exact(mem k (by omega)).1 G
     ·intro G;have E:=RX a p1 F x G;obtain⟨k,rfl⟩:=zB (show 0<=x by omega);exact(mem k (by omega)).2 G
    refine same _ ?_ (S6 hA p1 (by omega) i F) ?_
    ·rw[<-e1];have:=Qo bs (p1.length+1);omega
    ·rw[e2,e1]
end Go.Av.L
end
/-
 A part.
-/
section
namespace Go.Av
open Go
theorem K2(W:World):Bk (Mq []) W:=⟨λg cs e=>(by cases e),λg e=>(by cases e)⟩
end Go.Av
end
