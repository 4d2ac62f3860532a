/-
  Several texts in one.
-/
import Derived.Test.YtfgmnhjedmkpeaaAbM
set_option linter.unusedSimpArgs false
/-
 A part.
-/
section
namespace Go.Av.L
open Go.Av Go.Lib
set_option linter.unusedVariables false
set_option linter.unusedSimpArgs false
def JW(n:AJ):Abs.L.Nd:=⟨n.Kind,n.A,n.B,n.Min,n.Max,n.BO,n.S⟩
theorem RM:∀ns:List AJ,Vc (Af AA ns)=some ((ns.map JW).flatMap Abs.L.JB)
 |[]=>rfl
 |n::ns=>by
  have ih:Vc (List.flatMap AA ns)=_:=RM ns;rw[Af,yl];simp only[AA,yP,z8,Vc,Xc,ih,za,zf];rfl
theorem UP{C:Abs.Gf}{g:Abs.Gd}{h h1 N:Abs.AE}{f:Nat}{zs:List Abs.AD}{v1 v2:Abs.AD}(k1:Abs.Bw C g h f zs v1 h1)(k2:Abs.Bw C g h f zs v2 N):v1=v2/\h1=N:=by
 obtain⟨n,k1⟩:=k1;obtain⟨m,k2⟩:=k2;have a:=(Abs.ED C (yH n m)).1 _ _ _ _ _ k1;have b:=(Abs.ED C (yF n m)).1 _ _ _ _ _ k2;rw[a]at b;exact⟨(qA (zW b)).1,(qA (zW b)).2⟩
theorem T8{cs:List Abs.AD}{n:Nat}{r a:Int}{s:List UInt8}{i:Int}{bs bs':List Bool}(h1:R4 cs n r a s i bs)(N:R4 cs n r a s i bs'):bs=bs':=by
 obtain⟨m1,id1,k1,g1,_⟩:=h1;obtain⟨m2,id2,k2,g2,_⟩:=N;obtain⟨ev,rfl⟩:=UP k1 k2;injection ev with e1 _;injection e1 with e1;injection e1 with e1 _;subst e1;rw[g1]at g2;injection g2 with g2;injection g2 with _ _ g2;have U:=congrArg (List.map λv=>match v with|Abs.AD.bool b=>b|_=>false) g2;simpa[Function.comp_def]using U
theorem Oo{ns:List AJ}{root:Int}{s:List UInt8}(hs:s.length<=1000)(hc:ns.length<=1024)(may:∀(i:Nat) n,(ns.map JW)[i]?=some n->Abs.L.Ri n i)(oks:∀n∈ns.map JW,Abs.L.XF n){a i:Nat}(G:a<ns.length)(hi:i<=s.length):
  ∃bs,HP (Af AA ns) ns.length root (a:Int) s (i:Int)=some bs/\bs.length=s.length+1/\∀j,j<=s.length->(bs[j]?=some true↔Abs.L.Mt (ns.map JW) s a 0 i j):=by
 have hlen:(ns.map JW).length=ns.length:=by simp
 have hfl:((ns.map JW).flatMap Abs.L.JB).length=ns.length*7:=by rw[Abs.Jh Abs.L.NW,hlen]
 have own:Abs.L.Pk (hE ((ns.map JW).flatMap Abs.L.JB)) 7 ⟨some (0,0),ns.length⟩ ((ns.map JW).flatMap Abs.L.JB):=⟨hfl,.inr ⟨0,[],rfl,by rw[yR];exact Abs.AE.Bh _ _⟩⟩;obtain⟨⟨r1,r2⟩,em,O,bs,e1,lb,bo,J⟩:=Abs.L.QT (f:=1) (root:=root) own (zq 1) hs (by omega) may oks (a:=a) (i:=i) (by omega) hi;have hr:=Abs.L.MO em;dsimp only at e1 bo;subst e1;have hRun:R4 ((ns.map JW).flatMap Abs.L.JB) ns.length root (a:Int) s (i:Int) bs:=⟨r2,O,by rw[lb];exact hr,bo.get,by intro e;rw[e]at lb;simp at lb⟩;have hex:((ns.map JW).flatMap Abs.L.JB)≠[]/\∃bs,R4 ((ns.map JW).flatMap Abs.L.JB) ns.length root (a:Int) s (i:Int) bs:=⟨λe=>by rw[e]at hfl;simp at hfl;omega,bs,hRun⟩;refine⟨bs,?_,lb,J⟩;unfold HP;rw[RM];dsimp only;rw[dif_pos hex];congr 1;exact T8 hex.2.choose_spec hRun
theorem Sp(n:AF)(b:UInt8):Abs.L.hasB (JW (CD n)) b.toNat=true↔Ou n.Set (b.toNat:Int)=true:=by
 unfold Abs.L.hasB JW CD Lb Kf;dsimp only;rw[yZ];constructor
 ·rintro⟨x,D,J⟩;obtain⟨k,E,rfl⟩:=zX.1 D;obtain⟨h1,N⟩:=yz.1 E;have h1:=yq.1 h1;have e:(UInt8.ofNat k).toNat=k%256:=UInt8.toNat_ofNat';rw[e,qw h1,zT]at J;rw[<-J];exact N
 ·intro h;have:=b.toNat_lt;refine⟨UInt8.ofNat b.toNat,zX.2 ⟨b.toNat,yz.2 ⟨yq.2 this,h⟩,rfl⟩,?_⟩;have e:(UInt8.ofNat b.toNat).toNat=b.toNat%256:=UInt8.toNat_ofNat';rw[e,qw this];simp
noncomputable def Om(ns:List AF):List Abs.L.Nd:=(ns.map CD).map JW
theorem IJ{ns:List AF}{a:Nat}{m:Abs.L.Nd}(h:(Om ns)[a]?=some m):∃n,ns[a]?=some n/\m=JW (CD n):=by
 unfold Om at h;rw[List.getElem?_map,List.getElem?_map,Option.map_map,zh]at h;obtain⟨n,F,e⟩:=h;exact⟨n,F,e.symm⟩
theorem JU{ns:List AF}{a:Nat}{n:AF}(h:ns[a]?=some n):(Om ns)[a]?=some (JW (CD n)):=by
 unfold Om;rw[List.getElem?_map,List.getElem?_map,h];rfl
theorem RG(n:AF)(t:Int):Abs.L.Fh (JW (CD n)) t=Fh n t:=by
 unfold Abs.L.Fh Fh mn;show(if n.Max<0 then(if t+1<=n.Min then t+1 else n.Min)else t+1)=_;split
 ·split<;>split<;>omega
 ·rfl
theorem V8{ns:List AF}{s:List UInt8}{a:Nat}{τ:Int}{i j:Nat}:Abs.L.Mt (Om ns) s a τ i j↔Mt ns s a τ i j:=by
 constructor
 ·intro h
  induction h with
  |empty D E=>obtain⟨n,F,rfl⟩:=IJ D;exact .empty F E
  |one D E hs J=>obtain⟨n,F,rfl⟩:=IJ D;exact .one F E hs ((Sp n _).1 J)
  |front D E=>obtain⟨n,F,rfl⟩:=IJ D;exact .front F E
  |back D E=>obtain⟨n,F,rfl⟩:=IJ D;exact .back F E
  |Kr D E G _ ih=>obtain⟨n,F,rfl⟩:=IJ D;exact .Kr F E G ih
  |Kw D E G _ ih=>obtain⟨n,F,rfl⟩:=IJ D;exact .Kw F E G ih
  |group D E G _ ih=>obtain⟨n,F,rfl⟩:=IJ D;exact .group F E G ih
  |cat D E G J _ _ ih1 ih2=>obtain⟨n,F,rfl⟩:=IJ D;exact .cat F E G J ih1 ih2
  |GV D E hm=>obtain⟨n,F,rfl⟩:=IJ D;exact .GV F E hm
  |E7 D E G ht hc _ _ ih1 ih2=>obtain⟨n,F,rfl⟩:=IJ D;exact .E7 F E G ht hc ih1 (by rw[<-RG];exact ih2)
 ·intro h
  induction h with
  |empty D E=>exact .empty (JU D) E
  |one D E hs J=>exact .one (JU D) E hs ((Sp _ _).2 J)
  |front D E=>exact .front (JU D) E
  |back D E=>exact .back (JU D) E
  |Kr D E G _ ih=>exact .Kr (JU D) E G ih
  |Kw D E G _ ih=>exact .Kw (JU D) E G ih
  |group D E G _ ih=>exact .group (JU D) E G ih
  |cat D E G J _ _ ih1 ih2=>exact .cat (JU D) E G J ih1 ih2
  |GV D E hm=>exact .GV (JU D) E hm
  |E7 D E G ht hc _ _ ih1 ih2=>exact .E7 (JU D) E G ht hc ih1 (by rw[RG];exact ih2)
section
variable {ns:List Abs.L.Nd} {m:Abs.L.Nd} {s:List UInt8}
theorem Uq(may:∀(i:Nat) n,ns[i]?=some n->Abs.L.Ri n i){a:Nat}{τ:Int}{i j:Nat}(G:a<ns.length):Abs.L.Mt (ns++[m]) s a τ i j↔Abs.L.Mt ns s a τ i j:=by
 have up:∀{a:Nat} {n:Abs.L.Nd},ns[a]?=some n->(ns++[m])[a]?=some n:=λh=>by rw[List.getElem?_append_left (List.getElem?_eq_some_iff.1 h).1];exact h
 constructor
 ·intro h;revert G
  induction h with
  |empty D E=>intro G;rw[List.getElem?_append_left G]at D;exact .empty D E
  |one D E hs J=>intro G;rw[List.getElem?_append_left G]at D;exact .one D E hs J
  |front D E=>intro G;rw[List.getElem?_append_left G]at D;exact .front D E
  |back D E=>intro G;rw[List.getElem?_append_left G]at D;exact .back D E
  |Kr D E T _ ih=>intro G;rw[List.getElem?_append_left G]at D;have g:=(may _ _ D).2.2.1 (by omega);exact .Kr D E T (ih (by omega))
  |Kw D E T _ ih=>intro G;rw[List.getElem?_append_left G]at D;have g:=(may _ _ D).2.2.2.2.1 (by omega);exact .Kw D E T (ih (by omega))
  |group D E T _ ih=>intro G;rw[List.getElem?_append_left G]at D;have g:=(may _ _ D).2.2.1 (by omega);exact .group D E T (ih (by omega))
  |cat D E T hbx _ _ ih1 ih2=>intro G;rw[List.getElem?_append_left G]at D;have g:=(may _ _ D).2.2.1 (by omega);have g2:=(may _ _ D).2.2.2.2.1 (by omega);exact .cat D E T hbx (ih1 (by omega)) (ih2 (by omega))
  |GV D E hm=>intro G;rw[List.getElem?_append_left G]at D;exact .GV D E hm
  |E7 D E T ht hc _ _ ih1 ih2=>intro G;rw[List.getElem?_append_left G]at D;have g:=(may _ _ D).2.2.1 (by omega);exact .E7 D E T ht hc (ih1 (by omega)) (ih2 G)
 ·intro h;clear G
  induction h with
  |empty D E=>exact .empty (up D) E
  |one D E hs J=>exact .one (up D) E hs J
  |front D E=>exact .front (up D) E
  |back D E=>exact .back (up D) E
  |Kr D E G _ ih=>exact .Kr (up D) E G ih
  |Kw D E G _ ih=>exact .Kw (up D) E G ih
  |group D E G _ ih=>exact .group (up D) E G ih
  |cat D E G J _ _ ih1 ih2=>exact .cat (up D) E G J ih1 ih2
  |GV D E hm=>exact .GV (up D) E hm
  |E7 D E G ht hc _ _ ih1 ih2=>exact .E7 (up D) E G ht hc ih1 ih2
theorem QD(may:∀(i:Nat) n,ns[i]?=some n->Abs.L.Ri n i){x:Nat}(D:x<ns.length):∀{r i j:Nat},Abs.L.It (ns++[m]) s x r i j↔Abs.L.It ns s x r i j
 |0,i,j=>⟨λh=>by cases h;exact .z,λh=>by cases h;exact .z⟩
 |r+1,i,j=>⟨λh=>by cases h with|s m1 h1=>exact .s ((Uq may D).1 m1) ((QD may D).1 h1),λh=>by cases h with|s m1 h1=>exact .s ((Uq may D).2 m1) ((QD may D).2 h1)⟩
end
theorem QX{t:AS}(R:GL t):∀(i:Nat) n,(Om t.AK)[i]?=some n->Abs.L.Ri n i:=by
 intro i n F;obtain⟨m,hm,rfl⟩:=IJ F;obtain⟨g1,g2,g3,g4,g5,g6,g7,g8,g9,g10,g11⟩:=R.2.2.2 i m hm;exact⟨g1,g2,g3,g4,g5,g6,trivial,g8,g9,g10,g11⟩
theorem UL{t:AS}:∀n∈Om t.AK,Abs.L.XF n:=by
 intro n F;obtain⟨m,hm,rfl⟩:=zX.1 F;obtain⟨k,E,rfl⟩:=zX.1 hm;exact NM _ 256
theorem Pa{t:AS}(R:GL t){s:List UInt8}(hs:s.length<=1000){a i:Nat}(G:a<t.AK.length)(hi:i<=s.length){root:Int}:
  ∃bs,HP (Af AA (t.AK.map CD)) (t.AK.map CD).length root (a:Int) s (i:Int)=some bs/\bs.length=s.length+1/\∀j,j<=s.length->(bs[j]?=some true↔Mt t.AK s a 0 i j):=by
 obtain⟨bs,h1,N,U⟩:=Oo (ns:=t.AK.map CD) (root:=root) hs (by rw[yn];exact R.1) (QX R) UL (a:=a) (i:=i) (by rw[yn];exact G) hi;exact⟨bs,h1,N,λj hj=>(U j hj).trans V8⟩
def sat(n:AF)(τ:Int):Int:=if n.Max<0 then mn τ n.Min else τ
theorem NZ(n:AF)(τ:Int):Fh n (sat n τ)=sat n (τ+1):=by
 unfold Fh sat mn;by_cases h:n.Max<0
 ·simp only[zj h];split<;>split<;>(try split)<;>omega
 ·simp only[zk h]
theorem Wm{t:AS}(R:GL t)(hL:t.AK.length<=12){s:List UInt8}(hs:s.length<=6){a:Nat}{n:AF}(F:t.AK[a]?=some n)(E:n.Kind=4){τ:Int}(h0:0<=τ)(h1:τ<=1000)(hM:0<=n.Max->τ<=n.Max){k:Nat}(hks:k<=s.length):
  ∃bs,EJ ⟨t.AK.map CD,t.Ac⟩ (CD n) τ s (k:Int)=some bs/\bs.length=s.length+1/\∀j,j<=s.length->(bs[j]?=some true↔Mt t.AK s a (sat n τ) k j):=by
 obtain⟨g1,g2,g3,g4,g5,g6,g7,g8,g9,g10,g11⟩:=R.2.2.2 a n F;have G:=(List.getElem?_eq_some_iff.1 F).1;have hA:=g3 (by omega);obtain⟨m1,m2,m3,m4,m5⟩:=g8 E;obtain⟨x,D⟩:=zi hA.1;have D:n.A=(x:Int):=D;obtain⟨mi,hmi⟩:∃mi,mi=mx (n.Min - τ) 0:=⟨_,rfl⟩;obtain⟨ma,hma⟩:∃ma,ma=if n.Max>=0 then mx (n.Max - τ) 0 else n.Max:=⟨_,rfl⟩
 have Z:∀a b:Int,mx a b=if a<b then b else a:=λa b=>rfl
 have X:mi=if n.Min - τ<0 then 0 else n.Min - τ:=by rw[hmi,Z]
 have Y:ma=if n.Max>=0 then(if n.Max - τ<0 then 0 else n.Max - τ)else n.Max:=by rw[hma,Z]
 obtain⟨m,hm⟩:∃m:AJ,m=⟨n.Kind,n.A,n.B,mi,ma,n.BO,Lb n.Set⟩:=⟨_,rfl⟩;have hP:(t.AK.map CD++[m]).length=t.AK.length+1:=by simp
 have hnds:(t.AK.map CD++[m]).map JW=Om t.AK++[JW m]:=by rw[yQ];rfl
 have hlen:(Om t.AK).length=t.AK.length:=by simp[Om]
 have may:∀(i:Nat) q,((t.AK.map CD++[m]).map JW)[i]?=some q->Abs.L.Ri q i:=by
  intro i q P;rw[hnds]at P;by_cases hi:i<(Om t.AK).length
  ·rw[List.getElem?_append_left hi]at P;exact QX R i q P
  ·rw[List.getElem?_append_right (by omega)]at P;have hi0:i - (Om t.AK).length=0:=by
    have:=(List.getElem?_eq_some_iff.1 P).1;simp at this;omega
   rw[hi0]at P;have P:JW m=q:=by simpa using P
   subst P;rw[hm];have z:0<=mi/\mi<=255/\-1<=ma/\ma<=255/\(ma>=0->mi<=ma):=by
    rw[X,Y];split<;>split<;>(try split)<;>omega
   have b0:=g6 (by omega);have r0:=g11 (by omega);exact⟨by show 0<=n.Kind;omega,by show n.Kind<=7;omega,λ_=>⟨by show 0<=n.A;omega,by show n.A<(i:Int);omega⟩,λh=>absurd (show 2<=n.Kind/\n.Kind<=5 by omega) h,λh=>by have h:n.Kind=2\/n.Kind=3:=h;omega,λ_=>b0,trivial,λ_=>z,λh=>absurd E h,λh=>by have h:n.Kind=5:=h;omega,λ_=>r0⟩
 have oks:∀q∈(t.AK.map CD++[m]).map JW,Abs.L.XF q:=by
  intro q P;rw[hnds]at P;rcases zo.1 P with P|P
  ·exact UL q P
  ·have:q=JW m:=by simpa using P
   subst this;rw[hm];exact NM _ 256
 obtain⟨bs,e1,e2,e3⟩:=Oo (ns:=t.AK.map CD++[m]) (root:=0) (s:=s) (by omega) (by omega) may oks (a:=t.AK.length) (i:=k) (by omega) hks;refine⟨bs,?_,e2,λj hj=>(e3 j hj).trans ?_⟩
 ·rw[show CD n=(⟨n.Kind,n.A,n.B,n.Min,n.Max,n.BO,Lb n.Set⟩:AJ) from rfl];unfold EJ;dsimp only;have w1:IntKind.i64.wrap (n.Min - τ)=n.Min - τ:=Jr (by omega) (by omega);have w2:IntKind.i64.wrap (n.Max - τ)=n.Max - τ:=Jr (by omega) (by omega);rw[w1,w2,<-hmi];have e:(Aj (decide (n.Max>=0)) (some (mx (n.Max - τ) 0)) (some n.Max):Option Int)=some ma:=by
   rw[hma];by_cases h:n.Max>=0
   ·rw[zK h,zj h];rfl
   ·rw[zN h,zk h];rfl
  rw[e,za];simp only[z8];rw[<-hm];refine W.eq (ES (Hh (by simp;omega) (by simp;omega)) (ES (Hh (by simp;omega) (by simp;omega)) ?_));rw[show IntKind.i64.wrap (((t.AK.map CD++[m]).length:Int) - 1)=((t.AK.length:Nat):Int) from by rw[hP,Jr (by omega) (by omega)];omega];have e1':HP (Af AA (t.AK.map CD++[m])) (t.AK.map CD++[m]).length (0:Int) (t.AK.length:Int) s (k:Int)=some bs:=e1;rw[e1'];exact AG rfl
 ·rw [hnds];have hlast:(Om t.AK++[JW m])[t.AK.length]?=some (JW m):=by rw[List.getElem?_append_right (by omega),hlen];simp
  have z:0<=mi/\(0<=ma->mi<=ma):=by
   rw[X,Y];split<;>split<;>(try split)<;>omega
  rw[Abs.L.Sj (x:=x) hlast (by rw[hm];exact E) (by rw[hm];exact D) (by rw[hm];exact z.1) (by rw[hm];exact z.2)];rw[<-V8];have hS:0<=sat n τ/\(0<=n.Max->sat n τ<=n.Max):=by
   unfold sat mn;split
   ·split<;>exact⟨by omega,λh=>by omega⟩
   ·exact⟨h0,hM⟩
  constructor
  ·rintro⟨r,c1,c2,c3⟩;have c1:mi<=(r:Int):=by rw[hm]at c1;exact c1
   have c2:0<=ma->(r:Int)<=ma:=by rw[hm]at c2;exact c2
   have c3:=(QD (QX R) (by omega)).1 c3;refine Abs.L.QR (JU F) E D m1 hS.1 ?_ ?_ c3
   ·show n.Min<=sat n τ+r;rw[X]at c1;unfold sat mn;split at c1<;>split<;>(try split)<;>omega
   ·show 0<=n.Max->sat n τ+r<=n.Max;intro H;rw[Y,zj H]at c2;unfold sat;rw[zk (by omega)];have:=hM H;split at c2<;>omega
  ·intro h;obtain⟨r,c1,c2,c3⟩:=Abs.L.T0 h (JU F) E D m1 hS.2;have c1:n.Min<=sat n τ+r:=c1;have c2:0<=n.Max->sat n τ+r<=n.Max:=c2;refine⟨r,?_,?_,(QD (QX R) (by omega)).2 c3⟩
   ·rw[hm];show mi<=(r:Int);rw[X];unfold sat mn at c1;split at c1<;>(try split at c1)<;>split<;>omega
   ·rw[hm];show 0<=ma->(r:Int)<=ma;rw[Y];intro H;by_cases hx0:n.Max>=0
    ·have c2:=c2 hx0;unfold sat at c2;rw[zk (by omega)]at c2;rw[zj hx0];split<;>omega
    ·rw[zk hx0]at H⊢;omega
end Go.Av.L
end
/-
 A part.
-/
section
namespace Go.Av.L
open Go.Av Go.Lib
set_option linter.unusedVariables false
set_option linter.unusedSimpArgs false
inductive Sub(ns:List AF)(p:Nat):Nat->Prop
 |self:Sub ns p p
 |a {a x:Nat} {n:AF}:ns[a]?=some n->2<=n.Kind->n.Kind<=5->n.A=x->Sub ns p x->Sub ns p a
 |b {a x:Nat} {n:AF}:ns[a]?=some n->n.Kind=2\/n.Kind=3->n.B=x->Sub ns p x->Sub ns p a
theorem Sub.trans{ns:List AF}{p q a:Nat}(h:Sub ns q a)(k:Sub ns p q):Sub ns p a:=by
 induction h with
 |self=>exact k
 |a h1 N U h4 _ ih=>exact .a h1 N U h4 ih
 |b h1 N U _ ih=>exact .b h1 N U ih
def Gb(ns:List AF)(a:Nat)(g:Int):Prop:=∀p n,Sub ns p a->ns[p]?=some n->n.BO<=g
theorem PF{ns:List AF}{a x y:Nat}{n:AF}{g:Int}(F:ns[a]?=some n)(hA:2<=n.Kind/\n.Kind<=5->n.A=x)(hB:n.Kind=2\/n.Kind=3->n.B=y):
  Gb ns a g↔n.BO<=g/\(2<=n.Kind/\n.Kind<=5->Gb ns x g)/\(n.Kind=2\/n.Kind=3->Gb ns y g):=by
 constructor
 ·intro h;exact⟨h a n .self F,λE p m H hm=>h p m (.a F E.1 E.2 (hA E) H) hm,λE p m H hm=>h p m (.b F E (hB E) H) hm⟩
 ·rintro⟨h1,N,U⟩ p m H hm;cases H with
  |self=>rw[F]at hm;cases hm;exact h1
  |a e1 e2 e3 e4 H=>
   rw[F]at e1;cases e1;have:=hA ⟨e2,e3⟩;rw[this]at e4;obtain rfl:=Int.ofNat.inj e4;exact N ⟨e2,e3⟩ p m H hm
  |b e1 e2 e3 H=>
   rw[F]at e1;cases e1;have:=hB e2;rw[this]at e3;obtain rfl:=Int.ofNat.inj e3;exact U e2 p m H hm
theorem Oh(a b c:Int):mx a b<=c↔a<=c/\b<=c:=by unfold mx;split<;>omega
theorem Gb.up{ns:List AF}{a:Nat}{g g':Int}(h:Gb ns a g)(hg:g<=g'):Gb ns a g':=λp n H F=>qM (h p n H F) hg
def Gm(ns:List AF)(a:Nat)(g:Int):Prop:=0<=g/\Gb ns a g/\∀g',0<=g'->Gb ns a g'->g<=g'
theorem Gm.uniq{ns:List AF}{a:Nat}{g g':Int}(h:Gm ns a g)(h':Gm ns a g'):g=g':=Int.le_antisymm (h.2.2 _ h'.1 h'.2.1) (h'.2.2 _ h.1 h.2.1)
theorem U3{t:AS}(R:GL t){p:Nat}{n:AF}(F:t.AK[p]?=some n):0<=n.BO/\n.BO<=1024/\(n.Kind=5->1<=n.BO):=by
 obtain⟨g1,g2,g3,g4,g5,g6,g7,g8,g9,g10,g11⟩:=R.2.2.2 p n F;by_cases h:n.Kind=5
 ·have:=g10 h;omega
 ·have:=g11 h;omega
theorem Xk{t : AS}(R : GL t) : ∀ (a : Nat), a < t.AK.length ->∀f,a+1<=f->∃g:Int,(Dq f).CT ⟨t.AK.map CD,t.Ac⟩ (a:Int)=some g/\Gm t.AK a g:=by
  intro a
  induction a using Nat.strongRecOn with
  |_ a IH=>
  intro G f hf;obtain⟨f,rfl⟩:∃k,f=k+1:=⟨f - 1,by omega⟩;obtain⟨n,F⟩:∃n,t.AK[a]?=some n:=⟨_,List.getElem?_eq_getElem G⟩;obtain⟨g1,g2,g3,g4,g5,g6,g7,g8,g9,g10,g11⟩:=R.2.2.2 a n F;have hg:=U3 R F;show ∃g:Int,EU (Dq f) ⟨t.AK.map CD,t.Ac⟩ (a:Int)=some g/\_;unfold EU;rw[Dh (x:=CD n) (by rw[List.getElem?_map,F];rfl),za];rw[show CD n=(⟨n.Kind,n.A,n.B,n.Min,n.Max,n.BO,Lb n.Set⟩:AJ) from rfl];dsimp only;by_cases E:2<=n.Kind/\n.Kind<=5
  · have hA:=g3 E
    obtain⟨x,D⟩:=zi hA.1;have D:n.A=(x:Int):=D;obtain⟨gx,ex,mx1⟩:=IH x (by omega) (by omega) f (by omega);rw[show((decide (n.Kind>=2))&&(decide (n.Kind<=5)))=true from by rw[zK E.1,zK E.2];rfl,BL,D,ex];simp only[za];by_cases K:n.Kind=2\/n.Kind=3
    · have hB:=g5 K
      obtain⟨y,hy⟩:=zi hB.1;have hy:n.B=(y:Int):=hy;obtain⟨gy,ey,my1⟩:=IH y (by omega) (by omega) f (by omega);rw[show((n.Kind==2)||(n.Kind==3))=true from by simpa using K,BL,hy,ey];refine⟨_,rfl,?_,?_,?_⟩
      · unfold mx;split<;>(try split)<;>omega
      · rw[PF F (λ_=>D) (λ_=>hy)]
        have h1:mx (mx n.BO gx) gy<=mx (mx n.BO gx) gy:=zF _;rw[Oh,Oh]at h1;exact⟨h1.1.1,λ_=>mx1.2.1.up h1.1.2,λ_=>my1.2.1.up h1.2⟩
      · intro g' h0 J
        rw[PF F (λ_=>D) (λ_=>hy)]at J;rw[Oh,Oh];exact⟨⟨J.1,mx1.2.2 _ h0 (J.2.1 E)⟩,my1.2.2 _ h0 (J.2.2 K)⟩
    · rw[show((n.Kind==2)||(n.Kind==3))=false from by rw[yL];simpa using K,Ak]
      refine⟨_,rfl,?_,?_,?_⟩
      · unfold mx;split<;>omega
      · rw[PF (y:=0) F (λ_=>D) (λh=>absurd h K)]
        have h1:mx n.BO gx<=mx n.BO gx:=zF _;rw[Oh]at h1;exact⟨h1.1,λ_=>mx1.2.1.up h1.2,λh=>absurd h K⟩
      · intro g' h0 J
        rw[PF (y:=0) F (λ_=>D) (λh=>absurd h K)]at J;rw[Oh];exact⟨J.1,mx1.2.2 _ h0 (J.2.1 E)⟩
  · rw [show ((decide (n.Kind >= 2)) && (decide (n.Kind <= 5))) =false from by rw[yL];simpa using E,Ak]
    simp only[za]
    rw [show ((n.Kind == 2) || (n.Kind == 3)) = false from by rw[yL];intro h;have h:n.Kind=2\/n.Kind=3:=by simpa using h
                                                              omega,Ak]
    refine⟨_,rfl,hg.1,?_,λg' h0 J=>J a n .self F⟩;rw[PF (x:=0) (y:=0) F (λh=>absurd h E) (λh=>by omega)];exact⟨zF _,λh=>absurd h E,λh=>by omega⟩
theorem Nq{l:List Bool}{i p:Nat}(h:l[p]?=some true):(l.set i true)[p]?=some true:=by
 rw[List.getElem?_set];split
 ·rename_i e;subst e;rw[zj (List.getElem?_eq_some_iff.1 h).1]
 ·exact h
theorem N4{l:List Bool}{i:Nat}(h:i<l.length):(l.set i true)[i]?=some true:=by rw[List.getElem?_set,zj rfl,zj h]
theorem OB{l:List Bool}{i p:Nat}(h:(l.set i true)[p]?=some true):p=i\/l[p]?=some true:=by
 rw[List.getElem?_set]at h;split at h
 ·rename_i e;exact .inl e.symm
 ·exact .inr h
structure Mk(t:AS)(q:Nat)(l:List Bool)(x:Int):Prop where
 len:l.length=t.AK.length
 root:l[q]?=some true
 snd:∀p:Nat,l[p]?=some true->Sub t.AK p q
 a:∀(p:Nat) n,x<p->t.AK[p]?=some n->l[p]?=some true->2<=n.Kind/\n.Kind<=5->l[n.A.toNat]?=some true
 b:∀(p:Nat) n,x<p->t.AK[p]?=some n->l[p]?=some true->n.Kind=2\/n.Kind=3->l[n.B.toNat]?=some true
theorem Mk.all{t:AS}{q:Nat}{l:List Bool}{x:Int}(h:Mk t q l x)(D:x<0){p a:Nat}(H:Sub t.AK p a):l[a]?=some true->l[p]?=some true:=by
 induction H with
 |self=>exact id
 |a h1 N U h4 _ ih=>intro G;refine ih ?_;have:=h.a _ _ (by omega) h1 G ⟨N,U⟩;rw[h4]at this;simpa using this
 |b h1 N U _ ih=>intro G;refine ih ?_;have:=h.b _ _ (by omega) h1 G N;rw[U]at this;simpa using this
theorem Vg{t:AS}(R:GL t){q:Nat}(P:t.Ac=(q:Int)):W (GB t) λl=>∃x:Int,x<0/\Mk t q l x:=by
 have hl:=R.1;have hql:q<t.AK.length:=by have:=R.2.2.1;omega
 unfold GB;refine ES (zK ⟨by omega,by omega,by omega⟩) ?_;rw[P,zA,zA,Dh (x:=false) (by simp[hql]),za];have none_:∀p:Nat,¬(List.replicate t.AK.length false)[p]?=some true:=by
  intro p h;have:=qJ (zQ h);cases this
 refine AP (W.mono (W.loop (λz=> -1<=z.2/\z.2<=(q:Int)/\Mk t q z.1 z.2) (λz=>(z.2+1).toNat) ⟨by omega,by dsimp only;omega,?_⟩ ?_ (Q:=λl=>∃x:Int,x<0/\Mk t q l x)) λl h=>AG h)
 ·refine⟨by simp,N4 (by simp;omega),λp H=>?_,λp n D F H E=>?_,λp n D F H E=>?_⟩
  ·rcases OB H with rfl|h
   ·exact .self
   ·exact absurd h (none_ p)
  ·rcases OB H with rfl|h
   ·dsimp only at D;omega
   ·exact absurd h (none_ p)
  ·rcases OB H with rfl|h
   ·dsimp only at D;omega
   ·exact absurd h (none_ p)
 rintro⟨l,x⟩ ⟨h1,N,M⟩;dsimp only at h1 N M;unfold Hj;dsimp only;refine Bi (λhge=>?_) λhlt=>AG ⟨x,by omega,M⟩;obtain⟨i,rfl⟩:=zi hge;have hi:i<t.AK.length:=by have:(Int.ofNat i)<=q:=N;omega
 have hil:i<l.length:=by rw[M.len];exact hi
 obtain⟨n,F⟩:∃n,t.AK[i]?=some n:=⟨_,List.getElem?_eq_getElem hi⟩;obtain⟨g1,g2,g3,g4,g5,g6,g7,g8,g9,g10,g11⟩:=R.2.2.2 i n F;have I:l[i]?=some (l.getD i false):=by rw[zl,List.getElem?_eq_getElem hil];rfl
 have step:∀l',Mk t q l' ((i:Int) - 1)->∀{Q:((List Bool)×Int)⊕(List Bool)->Prop},(∀z,(-1<=z.2/\z.2<=(q:Int)/\Mk t q z.1 z.2)/\(z.2+1).toNat<((i:Int)+1).toNat->Q (.inl z))->W (some (.inl (l',IntKind.i64.wrap ((i:Int) - 1))):Option (((List Bool)×Int)⊕(List Bool))) Q:=by
  intro l' M' Q hQ;rw[Jr (x:=(i:Int) - 1) (by omega) (by omega)];exact AG (hQ _ ⟨⟨by dsimp only;omega,by dsimp only;have:(i:Int)<=q:=N;omega,M'⟩,by dsimp only;omega⟩)
 have more:∀l':List Bool,l'.length=l.length->(∀p:Nat,l[p]?=some true->l'[p]?=some true)->(∀p:Nat,l'[p]?=some true->l[p]?=some true\/(p<i/\Sub t.AK p i))->l[i]?=some true->
   (2<=n.Kind/\n.Kind<=5->l'[n.A.toNat]?=some true)->(n.Kind=2\/n.Kind=3->l'[n.B.toNat]?=some true)->Mk t q l' ((i:Int) - 1):=by
  intro l' e1 up dn V kA kB;have old:∀p:Nat,i<p->l'[p]?=some true->l[p]?=some true:=λp H h=>(dn p h).resolve_right λh=>by omega
  refine⟨e1.trans M.len,up _ M.root,λp H=>?_,λp m D hm H E=>?_,λp m D hm H E=>?_⟩
  ·rcases dn p H with h|h
   ·exact M.snd p h
   ·exact(M.snd i V).trans h.2
  ·by_cases e:p=i
   ·subst e;rw[F]at hm;cases hm;exact kA E
   ·exact up _ (M.a p m (by omega) hm (old p (by omega) H) E)
  ·by_cases e:p=i
   ·subst e;rw[F]at hm;cases hm;exact kB E
   ·exact up _ (M.b p m (by omega) hm (old p (by omega) H) E)
 show W (((Fy l (i:Int)).bind _).bind _) _;rw[Dh I,za];cases V:l.getD i false
 ·simp only[yK,BL,za];rw[V]at I;refine step l ⟨M.len,M.root,M.snd,λp m D hm H E=>?_,λp m D hm H E=>?_⟩ λz hz=>hz
  ·by_cases e:p=i
   ·subst e;rw[I]at H;cases H
   ·exact M.a p m (by omega) hm H E
  ·by_cases e:p=i
   ·subst e;rw[I]at H;cases H
   ·exact M.b p m (by omega) hm H E
 ·simp only[zI,Ak];rw[V]at I;rw[show Fy t.AK (i:Int)=some n from Dh F,za];by_cases K:n.Kind=2\/n.Kind=3
  ·have hA:=g3 (by omega);have hB:=g5 K;obtain⟨x,D⟩:=zi hA.1;obtain⟨y,hy⟩:=zi hB.1;have D:n.A=(x:Int):=D;have hy:n.B=(y:Int):=hy;have e1:((Aj (n.Kind==2) (some true) (some (n.Kind==3)):Option Bool))=some true:=by
    rcases K with h|h<;>rw[h]<;>rfl
   rw[e1];simp only[za,BL];rw[D,hy,zA,zA,E8 (show x<l.length by omega),za,E8 (show y<(l.set x true).length by rw[zp];omega),za,za];refine step _ (more _ (by simp) (λp h=>Nq (Nq h)) (λp h=>?_) I (λ_=>?_) λ_=>?_) λz hz=>hz
   ·rcases OB h with rfl|h
    ·exact .inr ⟨by omega,.b F K hy .self⟩
    ·rcases OB h with rfl|h
     ·exact .inr ⟨by omega,.a F (by omega) (by omega) D .self⟩
     ·exact .inl h
   ·rw[D,zA];exact Nq (N4 (by omega))
   ·rw[hy,zA];exact N4 (by rw[zp];omega)
  ·have e1:((Aj (n.Kind==2) (some true) (some (n.Kind==3)):Option Bool))=some false:=by
    rw[show(n.Kind==2)=false from by rw[zS];omega,Ak,show(n.Kind==3)=false from by rw[zS];omega]
   rw[e1];simp only[za,Ak];by_cases hk4:n.Kind=4\/n.Kind=5
   ·have hA:=g3 (by omega);obtain⟨x,D⟩:=zi hA.1;have D:n.A=(x:Int):=D;have e2:((Aj (n.Kind==4) (some true) (some (n.Kind==5)):Option Bool))=some true:=by
     rcases hk4 with h|h<;>rw[h]<;>rfl
    rw[e2];simp only[za,BL];rw[D,zA,E8 (show x<l.length by omega),za,za];refine step _ (more _ (by simp) (λp h=>Nq h) (λp h=>?_) I (λ_=>?_) λh=>absurd h K) λz hz=>hz
    ·rcases OB h with rfl|h
     ·exact .inr ⟨by omega,.a F (by omega) (by omega) D .self⟩
     ·exact .inl h
    ·rw[D,zA];exact N4 (by omega)
   ·have e2:((Aj (n.Kind==4) (some true) (some (n.Kind==5)):Option Bool))=some false:=by
     rw[show(n.Kind==4)=false from by rw[zS];omega,Ak,show(n.Kind==5)=false from by rw[zS];omega]
    rw[e2];simp only[za,Ak];exact step l (more l rfl (λp h=>h) (λp h=>.inl h) I (λh=>by omega) λh=>absurd h K) λz hz=>hz
theorem Vn{t:AS}(R:GL t)(hr:CI t=some true){q:Nat}(P:t.Ac=(q:Int)):W (EX t) λg=>Gm t.AK q g:=by
 have hl:=R.1;unfold EX;rw[hr,za,zI,Ak];refine AP ((Vg R P).mono ?_);rintro l ⟨x,D,M⟩;refine AP (W.mono (W.loop (λz=>∃i:Nat,z.2=(i:Int)/\i<=l.length/\0<=z.1/\(∀(p:Nat) n,p<i->l[p]?=some true->t.AK[p]?=some n->n.BO<=z.1)/\∀g',0<=g'->Gb t.AK q g'->z.1<=g') (λz=>((l.length:Int) - z.2).toNat) ⟨0,rfl,by omega,by dsimp only;omega,λp n H=>by omega,λg' h _=>h⟩ ?_ (Q:=λg=>Gm t.AK q g)) λg hg=>AG hg);rintro⟨g,x4⟩ ⟨i,hi,h1,N,U,h4⟩;dsimp only at hi N U h4;subst hi;unfold Gx;dsimp only;refine Bi (λhlt=>?_) λhge=>AG ⟨N,λp n H F=>?_,h4⟩
 ·have hil:i<l.length:=by omega
  have I:l[i]?=some (l.getD i false):=by rw[zl,List.getElem?_eq_getElem hil];rfl
  rw[Dh I,za];have hlen:=M.len;obtain⟨n,F⟩:∃n,t.AK[i]?=some n:=⟨_,List.getElem?_eq_getElem (by omega)⟩;cases V:l.getD i false
  ·simp only[Ak,za];rw[F3 (by omega)];refine AG ⟨⟨i+1,rfl,by omega,N,λp m H hu hm=>?_,h4⟩,by dsimp only;omega⟩;by_cases e:p=i
   ·subst e;rw[I,V]at hu;cases hu
   ·exact U p m (by omega) hu hm
  ·simp only[BL];rw[Dh F,za,za,F3 (by omega)];have Z:mx g n.BO<=mx g n.BO:=zF _;rw[Oh]at Z;refine AG ⟨⟨i+1,rfl,by omega,by dsimp only;omega,λp m H hu hm=>?_,λg' h0 J=>?_⟩,by dsimp only;omega⟩
   ·dsimp only;by_cases e:p=i
    ·subst e;rw[F]at hm;cases hm;exact Z.2
    ·exact qM (U p m (by omega) hu hm) Z.1
   ·dsimp only;rw[Oh];exact⟨h4 g' h0 J,J i n (M.snd i (by rw[I,V])) F⟩
 ·have hu:=M.all D H M.root;exact U p n (by have:=(List.getElem?_eq_some_iff.1 hu).1;omega) hu F
end Go.Av.L
end
