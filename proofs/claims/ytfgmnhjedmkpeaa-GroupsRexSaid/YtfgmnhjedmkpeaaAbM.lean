/-
 A part.
-/
import Derived.Test.YtfgmnhjedmkpeaaLref18
set_option linter.unusedSimpArgs false
namespace Go.Abs.L
open IntKind (i64)
open Go.Abs
set_option linter.unusedVariables false
set_option linter.unusedSimpArgs false
structure Nd where
 k:Int
 a:Int
 b:Int
 mi:Int
 ma:Int
 gr:Int
 S:List UInt8
def XF(n:Nd):Prop:=n.S.length<=256
def hasB(n:Nd)(b:Nat):Bool:=n.S.any λx=>x.toNat==b
def I1(n:Nd):List UInt8:=n.S
def JB(n:Nd):List AD:=[.int .i64 n.k,.int .i64 n.a,.int .i64 n.b,.int .i64 n.mi,.int .i64 n.ma,.int .i64 n.gr,.str (I1 n)]
theorem NW(n:Nd):(JB n).length=7:=rfl
def Ri(n:Nd)(c:Int):Prop:=
 0<=n.k/\n.k<=7/\(2<=n.k/\n.k<=5->0<=n.a/\n.a<c)/\(¬(2<=n.k/\n.k<=5)->n.a=0)/\(n.k=2\/n.k=3->0<=n.b/\n.b<c)/\(¬(n.k=2\/n.k=3)->n.b=0)/\
 True/\(n.k=4->0<=n.mi/\n.mi<=255/\-1<=n.ma/\n.ma<=255/\(n.ma>=0->n.mi<=n.ma))/\(n.k≠4->n.mi=0/\n.ma=0)/\(n.k=5->1<=n.gr/\n.gr<=1024)/\(n.k≠5->n.gr=0)
def Pk(h:AE)(sz:Nat)(s:Sl)(cs:List AD):Prop:=
 cs.length=s.n*sz/\((s.r=none/\s.n=0)\/∃id rest,s.r=some (id,0)/\h.get id=some (.cells none 1 (cs++rest)))
theorem Pk.view{P:Program}{S:Nat->Prop}{h:AE}{sz:Nat}{s:Sl}{cs:List AD}(w:Pk h sz s cs)(hS:∀id,s.id?=some id->S id):View P S h sz s cs:=by
 refine⟨w.1,?_⟩;rcases w.2 with M|⟨id,rest,h1,B⟩
 ·exact .inl M
 ·exact .inr ⟨id,0,none,1,cs++rest,h1,hS id (by simp[Sl.id?,h1]),B,λe' he=>(by cases he),.inr ⟨by simp,by simp,by simp⟩⟩
theorem Pk.Ep{h h':AE}{sz:Nat}{s:Sl}{cs:List AD}(w:Pk h sz s cs)(k:∀id,s.id?=some id->h'.get id=h.get id):Pk h' sz s cs:=by
 refine⟨w.1,?_⟩;rcases w.2 with M|⟨id,rest,h1,B⟩
 ·exact .inl M
 ·exact .inr ⟨id,rest,h1,by rw[k id (by simp[Sl.id?,h1])];exact B⟩
theorem Pk.lt{h:AE}{sz:Nat}{s:Sl}{cs:List AD}(w:Pk h sz s cs){id:Nat}(hi:s.id?=some id):id<h.size:=by
 rcases w.2 with⟨M,_⟩|⟨id',rest,h1,B⟩
 ·simp[Sl.id?,M]at hi
 ·simp[Sl.id?,h1]at hi;rw[<-hi];exact h.BZ B
def Fh(n:Nd)(t:Int):Int:=if n.ma<0 then(if t+1<=n.mi then t+1 else n.mi)else t+1
inductive Mt(ns:List Nd)(s:List UInt8):Nat->Int->Nat->Nat->Prop where
 |empty {a:Nat} {n:Nd} {t:Int} {i:Nat}:ns[a]?=some n->n.k=0->Mt ns s a t i i
 |one {a:Nat} {n:Nd} {t:Int} {i:Nat} {b:UInt8}:ns[a]?=some n->n.k=1->s[i]?=some b->hasB n b.toNat=true->Mt ns s a t i (i+1)
 |front {a:Nat} {n:Nd} {t:Int}:ns[a]?=some n->n.k=6->Mt ns s a t 0 0
 |back {a:Nat} {n:Nd} {t:Int}:ns[a]?=some n->n.k=7->Mt ns s a t s.length s.length
 |Kr {a x:Nat} {n:Nd} {t:Int} {i j:Nat}:ns[a]?=some n->n.k=3->n.a=x->Mt ns s x 0 i j->Mt ns s a t i j
 |Kw {a x:Nat} {n:Nd} {t:Int} {i j:Nat}:ns[a]?=some n->n.k=3->n.b=x->Mt ns s x 0 i j->Mt ns s a t i j
 |group {a x:Nat} {n:Nd} {t:Int} {i j:Nat}:ns[a]?=some n->n.k=5->n.a=x->Mt ns s x 0 i j->Mt ns s a t i j
 |cat {a x y:Nat} {n:Nd} {t:Int} {i k j:Nat}:ns[a]?=some n->n.k=2->n.a=x->n.b=y->Mt ns s x 0 i k->Mt ns s y 0 k j->Mt ns s a t i j
 |GV {a:Nat} {n:Nd} {t:Int} {i:Nat}:ns[a]?=some n->n.k=4->n.mi<=t->Mt ns s a t i i
 |E7 {a x:Nat} {n:Nd} {t:Int} {i k j:Nat}:ns[a]?=some n->n.k=4->n.a=x->t≠n.ma->(k=i->t<n.mi)->Mt ns s x 0 i k->Mt ns s a (Fh n t) k j->Mt ns s a t i j
theorem Mt.le{ns:List Nd}{s:List UInt8}{a:Nat}{t:Int}{i j:Nat}(m:Mt ns s a t i j):i<=j:=by
 induction m<;>omega
section
inductive It(ns:List Nd)(s:List UInt8)(x:Nat):Nat->Nat->Nat->Prop where
 |z {i:Nat}:It ns s x 0 i i
 |s {r i k j:Nat}:Mt ns s x 0 i k->It ns s x r k j->It ns s x (r+1) i j
section
variable {ns:List Nd} {s:List UInt8} {x:Nat}
theorem It.le{r i j:Nat}(h:It ns s x r i j):i<=j:=by
 induction h with
 |z=>exact xb _
 |s m _ ih=>exact xn m.le ih
theorem It.app{r i j:Nat}(h:It ns s x r i j):∀{q k:Nat},It ns s x q j k->It ns s x (r+q) i k:=by
 induction h with
 |z=>intro q k B;rw[xN];exact B
 |s m _ ih=>intro q k B;rw[Nat.add_right_comm];exact .s m (ih B)
theorem It.cut{q:Nat}:∀{r i j:Nat},It ns s x (r+q) i j->∃k,It ns s x r i k/\It ns s x q k j
 |0,i,j,h=>⟨i,.z,by rw[xN]at h;exact h⟩
 | r+1,i,j,h=>by
  rw[Nat.add_right_comm]at h;cases h with
  |s m h=>
   obtain⟨k,h1,B⟩:=It.cut h;exact⟨k,.s m h1,B⟩
theorem It.snoc{r i j k:Nat}(h:It ns s x r i j)(m:Mt ns s x 0 j k):It ns s x (r+1) i k:=h.app (.s m .z)
theorem It.last{r i j:Nat}(h:It ns s x (r+1) i j):∃k,It ns s x r i k/\Mt ns s x 0 k j:=by
 obtain⟨k,h1,B⟩:=h.cut;cases B with
 |s m h=>cases h;exact⟨k,h1,m⟩
theorem It.short{r m j:Nat}(h:It ns s x r m j):∃r',r'<=r/\r'<=j - m/\It ns s x r' m j:=by
 induction h with
 |z=>exact⟨0,xb _,xl _,.z⟩
 |@s r i k j mt hi ih=>
  obtain⟨r',h1,B,C⟩:=ih;have l1:=mt.le;have l2:=hi.le;by_cases F:k=i
  ·subst F;exact⟨r',by omega,B,C⟩
  ·exact⟨r'+1,by omega,by omega,.s mt C⟩
theorem T0{a:Nat}{t:Int}{i j:Nat}(m:Mt ns s a t i j):∀{n:Nd},ns[a]?=some n->n.k=4->n.a=x->0<=n.mi->(0<=n.ma->t<=n.ma)->∃r:Nat,n.mi<=t+r/\(0<=n.ma->t+r<=n.ma)/\It ns s x r i j:=by
 induction m with
 |GV h k hm=>
  intro n hn _ _ _ hv;rw[h]at hn;cases hn;exact⟨0,by simpa using hm,by simpa using hv,.z⟩
 | E7 h k G ht he m1 _ _ ih2=>
  intro n hn hk4 hnx hmi hv;rw[h]at hn;cases hn
  obtain⟨r,h1,B,C⟩:=ih2 h k hnx hmi (by
   intro M;have:=hv M;unfold Fh;rw[xd (by omega)]
   omega)
  have e:x=_:=Int.ofNat.inj (hnx.symm.trans G);subst e;refine⟨r+1,?_,?_,.s m1 C⟩
  ·unfold Fh at h1;split at h1
   ·split at h1<;>omega
   ·omega
  ·intro M;have:=B M;unfold Fh at this;rw[xd (by omega)]at this;omega
 |empty h k=>intro n hn F;rw[h]at hn;cases hn;omega
 |one h k=>intro n hn F;rw[h]at hn;cases hn;omega
 |front h k=>intro n hn F;rw[h]at hn;cases hn;omega
 |back h k=>intro n hn F;rw[h]at hn;cases hn;omega
 |Kr h k=>intro n hn F;rw[h]at hn;cases hn;omega
 |Kw h k=>intro n hn F;rw[h]at hn;cases hn;omega
 |group h k=>intro n hn F;rw[h]at hn;cases hn;omega
 |cat h k=>intro n hn F;rw[h]at hn;cases hn;omega
theorem QR{a:Nat}{n:Nd}(hn:ns[a]?=some n)(F:n.k=4)(G:n.a=x)(hmi:0<=n.mi){j:Nat}:∀{r:Nat} {t:Int} {i:Nat},0<=t->n.mi<=t+r->(0<=n.ma->t+r<=n.ma)->It ns s x r i j->Mt ns s a t i j
 |0,t,i,M,h1,B,h=>by cases h;exact .GV hn F (by simpa using h1)
 | r +1,t,i,M,h1,B,h=>by
  cases h with
  | @s _ _ k _ m h=>
   by_cases he:k=i/\n.mi<=t
   ·obtain⟨rfl,he⟩:=he;exact QR hn F G hmi M (by omega) (λh=>by have:=B h;omega) h
   ·refine .E7 hn F G (λe=>?_) (λe=>by omega) m (QR hn F G hmi ?_ ?_ ?_ h)
    ·have:=B (by omega);omega
    ·unfold Fh;split
     ·split<;>omega
     ·omega
    ·unfold Fh;split
     ·split<;>omega
     ·omega
    ·intro E;unfold Fh;rw[xd (by omega)];have:=B E;omega
theorem Sj{a:Nat}{n:Nd}(hn:ns[a]?=some n)(F:n.k=4)(G:n.a=x)(hmi:0<=n.mi)(hma:0<=n.ma->n.mi<=n.ma){i j:Nat}:Mt ns s a 0 i j↔∃r:Nat,n.mi<=r/\(0<=n.ma->(r:Int)<=n.ma)/\It ns s x r i j:=by
 constructor
 ·intro m;obtain⟨r,h1,B,C⟩:=T0 m hn F G hmi (λh=>h);exact⟨r,by omega,λh=>by have:=B h;omega,C⟩
 ·rintro⟨r,h1,B,C⟩;exact QR hn F G hmi (Int.le_refl 0) (by omega) (λh=>by have:=B h;omega) C
def Dk(ns:List Nd)(s:List UInt8)(x lo i k j:Nat):Prop:=∃r,r<=k/\It ns s x (lo+r) i j
theorem Dk.zero{lo i j:Nat}:Dk ns s x lo i 0 j↔It ns s x lo i j:=by
 constructor
 ·rintro⟨r,h1,B⟩;have:r=0:=by omega
  subst this;exact B
 ·intro h;exact⟨0,xb _,h⟩
theorem Dk.succ{lo i k j:Nat}:Dk ns s x lo i (k+1) j↔Dk ns s x lo i k j\/∃m,Dk ns s x lo i k m/\Mt ns s x 0 m j:=by
 constructor
 ·rintro⟨r,h1,B⟩;by_cases hr:r<=k
  ·exact .inl ⟨r,hr,B⟩
  ·obtain⟨m,C,E⟩:=It.last (show It ns s x ((lo+k)+1) i j by rw[show lo+k+1=lo+r by omega];exact B);exact .inr ⟨m,⟨k,xb _,C⟩,E⟩
 ·rintro(⟨r,h1,B⟩|⟨m,⟨r,h1,B⟩,C⟩)
  ·exact⟨r,by omega,B⟩
  ·exact⟨r+1,by omega,B.snoc C⟩
theorem Dk.stop{lo i k:Nat}(h:∀j,Dk ns s x lo i (k+1) j->Dk ns s x lo i k j):∀q j,Dk ns s x lo i (k+q) j->Dk ns s x lo i k j
 |0,j,hd=>hd
 |q+1,j,hd=>by
  rcases Dk.succ.1 (show Dk ns s x lo i ((k+q)+1) j from hd)with h1|⟨m,h1,B⟩
  ·exact Dk.stop h q j h1
  ·exact h j (Dk.succ.2 (.inr ⟨m,Dk.stop h q m h1,B⟩))
theorem Dk.mono{lo i k q j:Nat}(F:k<=q)(h:Dk ns s x lo i k j):Dk ns s x lo i q j:=by obtain⟨r,h1,B⟩:=h;exact⟨r,by omega,B⟩
theorem Dk.cap{lo i q j L:Nat}(D:j<=L)(h:Dk ns s x lo i q j):Dk ns s x lo i (min q L) j:=by
 obtain⟨r,h1,B⟩:=h;obtain⟨m,C,E⟩:=B.cut;obtain⟨r',K,H,T⟩:=E.short;exact⟨r',by omega,C.app T⟩
theorem WM{a:Nat}{n:Nd}(hn:ns[a]?=some n)(F:n.k=4)(G:n.a=x)(hmi:0<=n.mi)(hma:0<=n.ma->n.mi<=n.ma){i j L more:Nat}(D:j<=L)(hm:more=if n.ma<0 then L+1 else min (n.ma - n.mi).toNat (L+1)):
  Mt ns s a 0 i j↔Dk ns s x n.mi.toNat i more j:=by
 rw[Sj hn F G hmi hma];constructor
 ·rintro⟨r,h1,B,C⟩;have hd:Dk ns s x n.mi.toNat i (r - n.mi.toNat) j:=⟨r - n.mi.toNat,xb _,by rw[show n.mi.toNat+(r - n.mi.toNat)=r by omega];exact C⟩;refine(hd.cap D).mono ?_;rw[hm];split
  ·omega
  ·have:=B (by omega);omega
 ·rintro⟨r,h1,B⟩;refine⟨n.mi.toNat+r,by omega,λM=>?_,B⟩;rw[hm,xd (by omega)]at h1;have:=hma M;omega
end
end
section
def GJ(bs:List Bool):List AD:=bs.map AD.bool
@[simp] theorem XD (bs:List Bool):(GJ bs).length=bs.length:=by simp[GJ]
theorem TR(bs:List Bool):(GJ bs).all AD.one=true:=by
 rw[xg];intro x G;obtain⟨b,_,rfl⟩:=wh.1 G;rfl
theorem S8{bs:List Bool}{i:Nat}{b:Bool}(h:bs[i]?=some b):(GJ bs)[i]?=some (.bool b):=by simp[GJ,h]
theorem Sz(bs:List Bool)(i:Nat)(b:Bool):(GJ bs).set i (.bool b)=GJ (bs.set i b):=by simp[GJ,wj]
theorem Nl{n:Nat}(h:n<=1099511627776):NG 1 [.bool false] (n:Int) (n:Int)=some (GJ (List.replicate n false)):=by
 unfold NG;rw[xf (by omega),xh,MM];simp[GJ]
abbrev tB:TypeId:=4
abbrev tR:TypeId:=74
abbrev tM:TypeId:=127
structure Bo(h:AE)(Y:Nat)(bs:List Bool):Prop where
 get:h.get Y=some (.cells (some tB) 2 (GJ bs))
theorem KH{L i:Nat}(hi:i<L)(Y:Nat):Jp (⟨some (Y,0),L⟩:Sl) 1 (i:Int)=some (Y,i):=by
 have:Jp (⟨some (Y,0),L⟩:Sl) 1 (i:Int)=some (Y,0+i*1):=U5 hi;rw[this];congr 2;omega
theorem Bo.ld{h:AE}{Y:Nat}{bs:List Bool}(b:Bo h Y bs){i:Nat}{v:Bool}(hv:bs[i]?=some v):S3 h (Y,i)=some v:=Wz b.get (by simp) (S8 hv)
theorem Bo.st{g:Gd}{h:AE}{Y:Nat}{bs:List Bool}(b:Bo h Y bs)(hm:g.may Y=true){i:Nat}(hi:i<bs.length)(v:Bool):∃h',st g h (Y,i) [.bool v]=some h'/\Bo h' Y (bs.set i v)/\EP (some Y) h h'/\h'.size=h.size:=by
 have hz:=h.BZ b.get;refine⟨_,SU b.get hm (by simp;omega) rfl,⟨?_⟩,EP.set b.get,rfl⟩;rw[AE.Cf _ _ hz,NN (by simp;omega),Sz]
theorem Oz{g:Gd}{h:AE}{Y Z L:Nat}{ys zs:List Bool}(by_:Bo h Y ys)(bz:Bo h Z zs)(hm:g.may Y=true)(ly:ys.length=L)(lz:zs.length=L)(hL:L<=1000000):
  W (B4 g h ⟨some (Y,0),L⟩ ⟨some (Z,0),L⟩) λr=>Bo r.2 Y ((List.range L).map λi=>ys.getD i false||zs.getD i false)/\EP (some Y) h r.2:=by
 unfold B4
 let V:Nat->List Bool:=λk=>(List.range L).map λi=>if i<k then ys.getD i false||zs.getD i false else ys.getD i false
 refine AP (W.mono (W.loop (λst=>∃k:Nat,st.1=k/\k<=L/\Bo st.2 Y (V k)/\EP (some Y) h st.2) (λst=>L - st.1.toNat) ⟨0,rfl,by omega,?_,EP.refl _ _⟩ ?_ (Q:=λN=>Bo N Y (V L)/\EP (some Y) h N)) ?_)
 ·have:V 0=ys:=by
   apply xM (by simp[V,ly]);intro i h1 B;simp[V,B]
  rw[this];exact by_
 ·rintro⟨_,N⟩ ⟨k,rfl,F,bv,o⟩;dsimp only at bv o;unfold Gu;dsimp only;refine Bi (λhlt=>?_) (λhge=>?_)
  ·have hlt:k<L:=by omega
   have vk:(V k)[k]?=some (ys.getD k false):=by simp[V,hlt]
   rw[KH hlt Y];simp only[qQ,bv.ld vk];rw[KH hlt Z];have hz:∃z,S3 N (Z,k)=some z/\(ys.getD k false||z)=(ys.getD k false||zs.getD k false):=by
    by_cases he:Z=Y
    ·subst he;refine⟨_,bv.ld vk,?_⟩;have:=bz.get.symm.trans by_.get;have e:GJ zs=GJ ys:=by
      have:=qV this;injection this
     have e2:zs=ys:=by
      have C:=congrArg (List.map λv=>match v with|AD.bool b=>b|_=>false) e;simpa[GJ,Function.comp_def]using C
     rw[e2]
    ·have hzz:zs[k]?=some (zs.getD k false):=by simp[lz,hlt]
     exact⟨_,(Bo.mk (o.Ep bz.get (by simpa using he))).ld hzz,rfl⟩
   obtain⟨z,ez,e2⟩:=hz;simp only[qQ,ez];rw[show(Aj (ys.getD k false) (some true) (some z):Option Bool)=some (ys.getD k false||z) from Ss _ _];simp only[qQ];rw[e2];obtain⟨B,es,b2,o2,z2⟩:=bv.st (g:=g) hm (i:=k) (by simp[V];exact hlt) (ys.getD k false||zs.getD k false);rw[es];simp only[qQ];rw[F3 (by omega)];refine AG ⟨⟨k+1,rfl,by omega,?_,o.trans o2⟩,by dsimp only;omega⟩;dsimp only;have:(V k).set k (ys.getD k false||zs.getD k false)=V (k+1):=by
    apply xM (by simp[V]);intro i h1 B;rw[List.getElem_set];by_cases hi:k=i
    ·subst hi;simp[V]
    ·rw[xd hi];simp only[V,List.getElem_map,List.getElem_range];by_cases C:i<k
     ·rw[xf C,xf (by omega)]
     ·rw[xd C,xd (by omega)]
   rw[<-this];exact b2
  ·have:k=L:=by omega
   subst this;exact AG ⟨bv,o⟩
 ·rintro N ⟨b,o⟩;refine AG ⟨?_,o⟩;have:V L=(List.range L).map λi=>ys.getD i false||zs.getD i false:=by
   apply xF;intro i hi;rw[xf (xG.1 hi)]
  rw[<-this];exact b
end
section
theorem P5(n:Nd){b:Nat}(J:b<256):(∃x∈I1 n,x.toNat=b)↔hasB n b=true:=by
 unfold I1 hasB;simp[xX]
theorem XQ(h:AE)(n:Nd)(ok:XF n){b:Nat}(J:b<256):Fx h (b:Int) (I1 n)=some (hasB n b):=by
 unfold Fx;have hl:(I1 n).length<=256:=ok;refine W.eq (AP (W.mono (Q:=λo=>(o=.inl ()/\∀x∈I1 n,x.toNat≠b)\/(o=.inr true/\∃x∈I1 n,x.toNat=b)) (W.loop (λst=>∃i:Nat,st=i/\i<=(I1 n).length/\∀j x,j<i->(I1 n)[j]?=some x->x.toNat≠b) (λst=>(I1 n).length - st.toNat) ⟨0,rfl,by omega,λj x h=>by omega⟩ ?_) ?_))
 ·rintro _ ⟨i,rfl,hi,no⟩;unfold HO;dsimp only;refine Bi (λhlt=>?_) (λhge=>?_)
  ·have hlt:i<(I1 n).length:=by omega
   obtain⟨x,ex⟩:∃x,(I1 n)[i]?=some x:=⟨_,List.getElem?_eq_getElem hlt⟩;rw[O1 ex];simp only[qQ];rw[B3];split
   ·rename_i he;exact AG (.inr ⟨rfl,x,q9 ex,by omega⟩)
   ·rename_i he;rw[F3 (by omega)];refine AG ⟨⟨i+1,rfl,by omega,λj y D hy=>?_⟩,by omega⟩;by_cases B:j<i
    ·exact no j y B hy
    ·have:j=i:=by omega
     subst this;rw[ex]at hy;cases hy;omega
  ·refine AG (.inl ⟨rfl,λx G=>?_⟩);obtain⟨j,D,rfl⟩:=List.getElem_of_mem G;exact no j _ (by omega) (List.getElem?_eq_getElem D)
 ·rintro o (⟨rfl,B⟩|⟨rfl,B⟩)
  ·refine AG ?_;symm;rw[Bool.eq_false_iff];intro C;obtain⟨x,G,e⟩:=(P5 n J).2 C;exact B x G e
  ·exact AG ((P5 n J).1 B).symm
def Re:Br->Prop
 | .cells (some e) _ _=>e=tR\/e=tM
 |_=>False
structure Fix(h h':AE):Prop where
 size:h.size<=h'.size
 get:∀id o,h.get id=some o->¬Re o->h'.get id=some o
theorem Fix.trans{a b c:AE}(h:Fix a b)(k:Fix b c):Fix a c:=⟨xn h.size k.size,λid o h1 B=>k.get id o (h.get id o h1 B) B⟩
theorem Fix.of{h h':AE}(k:EP none h h'):Fix h h':=⟨k.size,λid o h1 _=>k.Ep h1 (by simp)⟩
theorem Fix.new{h h1 B:AE}{Y:Nat}(k:Fix h h1)(o:EP (some Y) h1 B)(hy:h.size<=Y):Fix h B:=
 ⟨xn k.size o.size,λid x C E=>o.Ep (k.get id x C E) (by have:=h.BZ C;simp;omega)⟩
theorem Et(stt:Nat)(cs:List AD):¬Re (.cells none stt cs):=λh=>h
theorem S7(stt:Nat)(cs:List AD):¬Re (.cells (some tB) stt cs):=λh=>by
 rcases h with h|h
 ·exact absurd h (by decide)
 ·exact absurd h (by decide)
theorem Fix.bo{h h':AE}(k:Fix h h'){Y:Nat}{bs:List Bool}(b:Bo h Y bs):Bo h' Y bs:=⟨k.get _ _ b.get (S7 _ _)⟩
structure Mk where
 fl:Nat
 m:Nat
 R:Nat
 sl:Sl
 root:Int
 ns:List Nd
 s:List UInt8
 U:Nat->Prop
abbrev Mk.g(c:Mk):Gd:=⟨c.fl,[]⟩
def Mk.Hg(c:Mk)(h:AE)(a i:Nat)(q:Sl):Prop:=
 ∃Y bs,q=⟨some (Y,0),c.s.length+1⟩/\bs.length=c.s.length+1/\Bo h Y bs/\¬c.U Y/\∀j,j<=c.s.length->(bs[j]?=some true↔Mt c.ns c.s a 0 i j)
theorem Mk.Hg.fix{c:Mk}{h h':AE}{a i:Nat}{q:Sl}(e:c.Hg h a i q)(k:Fix h h'):c.Hg h' a i q:=by
 obtain⟨Y,bs,h1,B,C,M,E⟩:=e;exact⟨Y,bs,h1,B,k.bo C,M,E⟩
def Mk.V4(c:Mk)(h:AE)(a:Nat)(r:Sl):Prop:=
 r=⟨none,0⟩\/∃(X:Nat) (qs:List Sl),r=⟨some (X,0),c.s.length+1⟩/\c.fl<=X/\h.get X=some (.cells (some tR) 2 (qs.map Sl.v))/\qs.length=c.s.length+1/\∀(i:Nat) (q:Sl),qs[i]?=some q->q=(⟨none,0⟩:Sl)\/c.Hg h a i q
structure Mk.I(c:Mk)(h:AE):Prop where
 cell:h.get c.m=some (.cells none 2 [.slice (some (c.R,0)) c.ns.length])
 own:Pk h 7 c.sl (c.ns.flatMap JB)
 rows:∃rs:List Sl,rs.length=c.ns.length/\h.get c.R=some (.cells (some tM) 2 (rs.map Sl.v))/\(∀(a:Nat) (r:Sl),rs[a]?=some r->c.V4 h a r)/\
  ∀(a b X n p:Nat),rs[a]?=some (⟨some (X,0),n⟩:Sl)->rs[b]?=some (⟨some (X,0),p⟩:Sl)->a=b
structure Mk.Ok(c:Mk):Prop where
 fl:c.fl<=c.R
 len:c.s.length<=1000
 cnt:c.ns.length<=1024
 may:∀(i:Nat) n,c.ns[i]?=some n->Ri n i
 set:∀(i:Nat) n,c.ns[i]?=some n->XF n
theorem Mk.I.Ep{c:Mk}{h h':AE}(i:c.I h)(k:EP none h h'):c.I h':=by
 obtain⟨rs,h1,B,C,E⟩:=i.rows;refine⟨k.Ep i.cell (by simp),i.own.Ep λid hi=>k.get id (i.own.lt hi) (by simp),rs,h1,k.Ep B (by simp),λa r hr=>?_,E⟩;rcases C a r hr with K|⟨X,qs,e1,e0,e2,e3,e4⟩
 ·exact .inl K
 ·refine .inr ⟨X,qs,e1,e0,k.Ep e2 (by simp),e3,λi q hq=>?_⟩;rcases e4 i q hq with H|H
  ·exact .inl H
  ·exact .inr (H.fix (Fix.of k))
end
section
variable {c:Mk} {h h':AE}
def Mk.Has(c:Mk)(h:AE)(a:Nat):Prop:=∃X,Lz h (c.R,a)=some ⟨some (X,0),c.s.length+1⟩
structure Mk.Step(c:Mk)(h h':AE):Prop where
 inv:c.I h'
 fix:Fix h h'
 has:∀a,c.Has h a->c.Has h' a
theorem Mk.Step.trans{h'':AE}(x:c.Step h h')(y:c.Step h' h''):c.Step h h'':=⟨y.inv,x.fix.trans y.fix,λa k=>y.has a (x.has a k)⟩
theorem Jo{rs:List Sl}{a:Nat}{r:Sl}(hr:rs[a]?=some r):(rs.map Sl.v)[a]?=some (.slice r.r r.n):=by rw[List.getElem?_map,hr];rfl
theorem Mk.I.lt(i:c.I h):c.R<h.size:=by obtain⟨rs,_,B,_⟩:=i.rows;exact h.BZ B
theorem Mk.Step.of(i:c.I h)(k:EP none h h'):c.Step h h':=by
 refine⟨i.Ep k,Fix.of k,λa ⟨X,G⟩=>⟨X,?_⟩⟩;obtain⟨rs,h1,B,C,E⟩:=i.rows;obtain⟨w,e1,e2⟩:=AI G;unfold Lz Ma at *;rw[k.Ep B (by simp)];rw[B]at G;exact G
theorem Mk.I.look(i:c.I h){a:Nat}(ha:a<c.ns.length):
  ∃r:Sl,Lz h (c.m,0+0)=some ⟨some (c.R,0),c.ns.length⟩/\Jp (⟨some (c.R,0),c.ns.length⟩:Sl) 1 (a:Int)=some (c.R,a)/\Lz h (c.R,a)=some r/\c.V4 h a r:=by
 obtain⟨rs,h1,B,C,E⟩:=i.rows;have G:rs[a]?=some rs[a]:=List.getElem?_eq_getElem (by omega);exact⟨rs[a],Ja i.cell (by simp) rfl,KH ha c.R,Ja B (by simp) (Jo G),C a _ G⟩
theorem Mk.I.make(ok:c.Ok)(i:c.I h){a:Nat}(ha:a<c.ns.length)(hfl:c.fl<=h.size):
  ∃B C,B=h.push (.cells (some tR) 2 (List.replicate (c.s.length+1) (.slice none 0)))/\st c.g B (c.R,a) [.slice (some (h.size,0)) (c.s.length+1)]=some C/\c.Step h C/\c.Has C a:=by
 obtain⟨rs,h1,B,C,E⟩:=i.rows;have hlt:=h.BZ B;have k:=EP.push none h (.cells (some tR) 2 (List.replicate (c.s.length+1) (.slice none 0)));obtain⟨N,eh⟩:∃N,N=h.push (.cells (some tR) 2 (List.replicate (c.s.length+1) (.slice none 0))):=⟨_,rfl⟩;rw[<-eh]at k;have zz:N.size=h.size+1:=by rw[eh];rfl
 have g2:=k.Ep B (by simp);have gx:N.get h.size=some (.cells (some tR) 2 (List.replicate (c.s.length+1) (.slice none 0))):=by rw[eh,AE.Bh]
 let ro:Sl:=⟨some (h.size,0),c.s.length+1⟩
 have es:=SU (g:=c.g) g2 (o:=a) (new:=[ro.v]) (JZ (by have:=ok.fl;omega)) (by simp;omega) rfl;rw[NN (by simp;omega)]at es;have e1:(rs.map Sl.v).set a ro.v=(rs.set a ro).map Sl.v:=by rw[wj]
 rw[e1]at es;obtain⟨hf,ef⟩:∃hf,hf=N.set c.R (.cells (some tM) 2 ((rs.set a ro).map Sl.v)):=⟨_,rfl⟩;have es:st c.g N (c.R,a) [.slice (some (h.size,0)) (c.s.length+1)]=some (N.set c.R (.cells (some tM) 2 ((rs.set a ro).map Sl.v))):=es;rw[<-ef]at es;have hR:hf.get c.R=some (.cells (some tM) 2 ((rs.set a ro).map Sl.v)):=by rw[ef,AE.Cf _ _ (by omega)]
 have hne:∀id,id≠c.R->hf.get id=N.get id:=λid hid=>by rw[ef,AE.Cj _ _ (by omega) hid]
 have hfx:Fix h hf:=by
  refine⟨by rw[ef];show h.size<=N.size;omega,λid o K H=>?_⟩;have:id≠c.R:=by
   rintro rfl;rw[B]at K;cases K;exact H (.inr rfl)
  rw[hne id this];exact k.Ep K (by simp)
 have hra:(rs.set a ro)[a]?=some ro:=by rw[List.getElem?_set_self (by omega)]
 refine⟨N,hf,eh,es,⟨⟨hfx.get _ _ i.cell (Et _ _),i.own.Ep λid hid=>?_,rs.set a ro,by simpa using h1,hR,?_,?_⟩,hfx,?_⟩,h.size,Ja hR (by simp) (Jo hra)⟩
 ·rw[hne id ?_]
  ·exact k.get id (i.own.lt hid) (by simp)
  ·rintro rfl;rcases i.own.2 with⟨M,_⟩|⟨id',rest,e1,e2⟩
   ·simp[Sl.id?,M]at hid
   ·simp[Sl.id?,e1]at hid;subst hid;rw[B]at e2;have:=qV e2;injection this with this _ _;exact absurd this (by decide)
 ·intro b r J;by_cases hab:a=b
  ·subst hab;rw[hra]at J;cases J;refine .inr ⟨h.size,List.replicate (c.s.length+1) ⟨none,0⟩,rfl,hfl,?_,by simp,λi q hq=>.inl (xc (q9 hq))⟩;rw[hne _ (by omega),gx];simp[Sl.v]
  ·rw [List.getElem?_set_ne hab]at J;rcases C b r J with K|⟨X,qs,f1,f0,f2,f3,f4⟩
   ·exact .inl K
   ·refine .inr ⟨X,qs,f1,f0,?_,f3,λi q hq=>?_⟩
    ·rw[hne X ?_]
     ·exact k.Ep f2 (by simp)
     ·rintro rfl;rw[B]at f2;have:=qV f2;injection this with this _ _;exact absurd this (by decide)
    ·rcases f4 i q hq with H|H
     ·exact .inl H
     ·exact .inr (H.fix hfx)
 ·intro b d X n p J hd;have old:∀(e:Nat) (n:Nat),a≠e->(rs.set a ro)[e]?=some (⟨some (h.size,0),n⟩:Sl)->False:=by
   intro e n hne2 he;rw[List.getElem?_set_ne hne2]at he;rcases C e _ he with K|⟨X',qs,f1,f0,f2,f3,f4⟩
   ·cases K
   ·have:X'=h.size:=by
     have:=congrArg Sl.r f1;simp at this;omega
    subst this;have:=h.BZ f2;omega
  by_cases K:a=b
  ·by_cases H:a=d
   ·omega
   ·subst K;rw[hra]at J;have:X=h.size:=by
     have:=congrArg Sl.r (qV J);simp[ro]at this;omega
    subst this;exact(old d p H hd).elim
  ·by_cases H:a=d
   ·subst H;rw[hra]at hd;have:X=h.size:=by
     have:=congrArg Sl.r (qV hd);simp[ro]at this;omega
    subst this;exact(old b n K J).elim
   ·rw[List.getElem?_set_ne K]at J;rw[List.getElem?_set_ne H]at hd;exact E b d X n p J hd
 ·rintro b ⟨X,hX⟩;by_cases K:a=b
  ·subst K;exact⟨h.size,Ja hR (by simp) (Jo hra)⟩
  ·have hbl:b<rs.length:=by
    by_cases J:b<rs.length
    ·exact J
    ·exfalso;have hn:Ma h (c.R,b)=none:=by
      unfold Ma;simp only[B,B2];rw[xd (by rw[xq];omega)]
     simp[Lz,hn]at hX
   have J:rs[b]?=some rs[b]:=List.getElem?_eq_getElem hbl;have e:=Ja (h:=h) B (by simp) (Jo J);rw[hX]at e;refine⟨X,?_⟩;have hb2:(rs.set a ro)[b]?=some rs[b]:=by rw[List.getElem?_set_ne K];exact J
   have:=Ja hR (by simp) (Jo hb2);rw[this];exact e.symm
end
section
variable {c:Mk} {h h':AE}
theorem QJ{rs:List Sl}{R:Nat}(B:h.get R=some (.cells (some tM) 2 (rs.map Sl.v))){a:Nat}{r:Sl}(hX:Lz h (R,a)=some r):rs[a]?=some r:=by
 have hbl:a<rs.length:=by
  by_cases J:a<rs.length
  ·exact J
  ·exfalso;have hn:Ma h (R,a)=none:=by
    unfold Ma;simp only[B,B2];rw[xd (by rw[xq];omega)]
   simp[Lz,hn]at hX
 have J:rs[a]?=some rs[a]:=List.getElem?_eq_getElem hbl;have e:=Ja (h:=h) B (by simp) (Jo J);rw[hX]at e;rw[J,qV e]
theorem Mk.Has.row(i:c.I h){a:Nat}(k:c.Has h a):∃X qs,Lz h (c.R,a)=some ⟨some (X,0),c.s.length+1⟩/\c.fl<=X/\h.get X=some (.cells (some tR) 2 (List.map Sl.v qs))/\qs.length=c.s.length+1/\∀(i:Nat) (q:Sl),qs[i]?=some q->q=(⟨none,0⟩:Sl)\/c.Hg h a i q:=by
 obtain⟨X,hX⟩:=k;obtain⟨rs,h1,B,C,E⟩:=i.rows;rcases C a _ (QJ B hX)with K|⟨X',qs,f1,f0,f2,f3,f4⟩
 ·cases K
 ·have:X'=X:=by
   have:=congrArg Sl.r f1;simp at this;omega
  subst this;exact⟨X',qs,hX,f0,f2,f3,f4⟩
theorem Mk.I.put(ok:c.Ok)(i:c.I h){a:Nat}(hs:c.Has h a){p:Nat}(hp:p<=c.s.length){q:Sl}(e:c.Hg h a p q):
  ∃X h',Lz h (c.R,a)=some ⟨some (X,0),c.s.length+1⟩/\Jp (⟨some (X,0),c.s.length+1⟩:Sl) 1 (p:Int)=some (X,p)/\st c.g h (X,p) [.slice q.r q.n]=some h'/\c.Step h h':=by
 obtain⟨X,qs,hX,hfl,hg,hq,hall⟩:=hs.row i;obtain⟨rs,h1,B,C,E⟩:=i.rows;have hlt:=h.BZ hg;have es:=SU (g:=c.g) hg (o:=p) (new:=[q.v]) (JZ hfl) (by simp;omega) rfl;rw[NN (by simp;omega)]at es;have e1:(qs.map Sl.v).set p q.v=(qs.set p q).map Sl.v:=by rw[wj]
 rw[e1]at es;obtain⟨hf,ef⟩:∃hf,hf=h.set X (.cells (some tR) 2 ((qs.set p q).map Sl.v)):=⟨_,rfl⟩;rw[<-ef]at es;have gX:hf.get X=some (.cells (some tR) 2 ((qs.set p q).map Sl.v)):=by rw[ef,AE.Cf _ _ hlt]
 have hne:∀id,id≠X->hf.get id=h.get id:=λid hid=>by rw[ef,AE.Cj _ _ hlt hid]
 have hfx:Fix h hf:=by
  refine⟨by rw[ef];show h.size<=h.size;omega,λid o K H=>?_⟩;have:id≠X:=by
   rintro rfl;rw[hg]at K;cases K;exact H (.inl rfl)
  rw[hne id this];exact K
 have hRX:c.R≠X:=by
  intro M;rw[M]at B;rw[hg]at B;have:=qV B;injection this with this _ _;exact absurd this (by decide)
 have gR:hf.get c.R=some (.cells (some tM) 2 (rs.map Sl.v)):=by rw[hne _ hRX];exact B
 refine⟨X,hf,hX,KH (by omega) X,es,⟨hfx.get _ _ i.cell (Et _ _),i.own.Ep λid hid=>?_,rs,h1,gR,λb r J=>?_,E⟩,hfx,λb ⟨X',hX'⟩=>⟨X',?_⟩⟩
 ·rw[hne id ?_];rintro rfl;rcases i.own.2 with⟨M,_⟩|⟨id',rest,e1,e2⟩
  ·simp[Sl.id?,M]at hid
  ·simp[Sl.id?,e1]at hid;subst hid;rw[hg]at e2;have:=qV e2;injection this with this _ _;exact absurd this (by decide)
 ·have hra:=QJ B hX;by_cases hab:a=b
  ·subst hab;rw[hra]at J;cases J;refine .inr ⟨X,qs.set p q,rfl,hfl,gX,by simpa using hq,λj w hw=>?_⟩;by_cases D:p=j
   ·subst D;rw[List.getElem?_set_self (by omega)]at hw;cases hw;exact .inr (e.fix hfx)
   ·rw[List.getElem?_set_ne D]at hw;rcases hall j w hw with H|H
    ·exact .inl H
    ·exact .inr (H.fix hfx)
  ·rcases C b r J with K|⟨X',qs',f1,f0,f2,f3,f4⟩
   ·exact .inl K
   ·refine .inr ⟨X',qs',f1,f0,?_,f3,λj w hw=>?_⟩
    ·rw[hne X' ?_]
     ·exact f2
     ·rintro rfl;subst f1;exact hab (E a b _ _ _ hra J)
    ·rcases f4 j w hw with H|H
     ·exact .inl H
     ·exact .inr (H.fix hfx)
 ·exact Ja gR (by simp) (Jo (QJ B hX'))
end
section
variable {c:Mk} {h h':AE}
def Mk.Ph(c:Mk)(Y:Nat):Mk:={c with U:=λy=>c.U y\/y=Y}
theorem Mk.Hg.Qk{Y a i:Nat}{q:Sl}(e:(c.Ph Y).Hg h a i q):c.Hg h a i q:=by
 obtain⟨Z,bs,h1,B,C,M,E⟩:=e;exact⟨Z,bs,h1,B,C,λhu=>M (.inl hu),E⟩
theorem Mk.Hg.Ph{Y a i:Nat}{q:Sl}(e:c.Hg h a i q)(hy:h.size<=Y):(c.Ph Y).Hg h a i q:=by
 obtain⟨Z,bs,h1,B,C,M,E⟩:=e;refine⟨Z,bs,h1,B,C,λhu=>?_,E⟩;rcases hu with hu|hu
 ·exact M hu
 ·have:=h.BZ C.get;omega
theorem Mk.I.Qk{Y:Nat}(i:(c.Ph Y).I h):c.I h:=by
 obtain⟨rs,h1,B,C,E⟩:=i.rows;refine⟨i.cell,i.own,rs,h1,B,λa r hr=>?_,E⟩;rcases C a r hr with K|⟨X,qs,e1,e0,e2,e3,e4⟩
 ·exact .inl K
 ·refine .inr ⟨X,qs,e1,e0,e2,e3,λi q hq=>?_⟩;rcases e4 i q hq with H|H
  ·exact .inl H
  ·exact .inr H.Qk
theorem Mk.I.Ph{Y:Nat}(i:c.I h)(hy:h.size<=Y):(c.Ph Y).I h:=by
 obtain⟨rs,h1,B,C,E⟩:=i.rows;refine⟨i.cell,i.own,rs,h1,B,λa r hr=>?_,E⟩;rcases C a r hr with K|⟨X,qs,e1,e0,e2,e3,e4⟩
 ·exact .inl K
 ·refine .inr ⟨X,qs,e1,e0,e2,e3,λi q hq=>?_⟩;rcases e4 i q hq with H|H
  ·exact .inl H
  ·exact .inr (H.Ph hy)
theorem Mk.I.only{Y:Nat}{bs:List Bool}(i:c.I h)(hu:c.U Y)(b:Bo h Y bs)(o:EP (some Y) h h'):c.I h'/\∀a,c.Has h a->c.Has h' a:=by
 obtain⟨rs,h1,B,C,E⟩:=i.rows;have ne:∀{id gr stt cs},h.get id=some (.cells gr stt cs)->gr≠some tB->some id≠some Y:=by
  intro id gr stt cs hg hn he;have:=qV he;subst this;rw[b.get]at hg;have:=qV hg;injection this with this _ _;exact hn this.symm
 have nR:(some tR:Option TypeId)≠some tB:=by decide
 have nM:(some tM:Option TypeId)≠some tB:=by decide
 have gR:=o.Ep B (ne B nM);refine⟨⟨o.Ep i.cell (ne i.cell (by decide)),i.own.Ep λid hid=>?_,rs,h1,gR,λa r hr=>?_,E⟩,λa ⟨X,hX⟩=>⟨X,Ja gR (by simp) (Jo (QJ B hX))⟩⟩
 ·rcases i.own.2 with⟨M,_⟩|⟨id',rest,e1,e2⟩
  ·simp[Sl.id?,M]at hid
  ·simp[Sl.id?,e1]at hid;subst hid;rw[o.Ep e2 (ne e2 (by decide)),e2]
 ·rcases C a r hr with K|⟨X,qs,e1,e0,e2,e3,e4⟩
  ·exact .inl K
  ·refine .inr ⟨X,qs,e1,e0,o.Ep e2 (ne e2 nR),e3,λi q hq=>?_⟩;rcases e4 i q hq with H|⟨Z,zs,f1,f2,f3,f0,f4⟩
   ·exact .inl H
   ·refine .inr ⟨Z,zs,f1,f2,⟨o.Ep f3.get ?_⟩,f0,f4⟩;intro he;have:=qV he;subst this;exact f0 hu
end
section
variable {c:Mk} {h h':AE}
noncomputable abbrev NX:=CC
abbrev Mk.at(c:Mk)(U:Nat->Prop):Mk:={c with U:=U}
abbrev Mk.tree(c:Mk):List AD:=[c.sl.v,.int .i64 c.root]
structure Mk.Loc(c:Mk)(Y:Nat)(M N:AE)(bs:List Bool):Prop where
 inv:(c.Ph Y).I N
 fix:Fix M N
 has:∀a,c.Has M a->c.Has N a
 bo:Bo N Y bs
 ln:bs.length=c.s.length+1
 new:M.size<=Y
 fl:c.fl<=Y
theorem Mk.Loc.call{Y:Nat}{M:AE}{bs:List Bool}(l:c.Loc Y M h bs)(s:(c.Ph Y).Step h h'):c.Loc Y M h' bs:=
 ⟨s.inv,l.fix.trans s.fix,λa k=>s.has a (l.has a k),s.fix.bo l.bo,l.ln,l.new,l.fl⟩
theorem Mk.Loc.only{Y:Nat}{M:AE}{bs bs':List Bool}(l:c.Loc Y M h bs)(o:EP (some Y) h h')(b:Bo h' Y bs')(hl:bs'.length=c.s.length+1):c.Loc Y M h' bs':=by
 obtain⟨i,k⟩:=l.inv.only (.inr rfl) l.bo o;exact⟨i,l.fix.new o l.new,λa x=>k a (l.has a x),b,hl,l.new,l.fl⟩
theorem Mk.Loc.Ya(ok:c.Ok)(i:c.I h){M:AE}(k:EP none M h)(hs:∀a,c.Has M a->c.Has h a):c.Loc h.size M (h.push (.cells (some tB) 2 (GJ (List.replicate (c.s.length+1) false)))) (List.replicate (c.s.length+1) false):=by
 have kp:=EP.push none h (.cells (some tB) 2 (GJ (List.replicate (c.s.length+1) false)));have i2:=i.Ph (xb h.size);have st:=Mk.Step.of i2 kp;exact⟨st.inv,Fix.of (k.trans kp),λa x=>st.has a (hs a x),⟨AE.Bh _ _⟩,by simp,k.size,by have:=ok.fl;have:=i.lt;omega⟩
def Mk.MY(c:Mk)(n a i:Nat):Prop:=∀(U:Nat->Prop) (h:AE),(∀y,U y->y<h.size)->(c.at U).I h->
 W ((NX n).BY c.g h (some (c.m,0)) c.tree (a:Int) c.s (i:Int)) λr=>(c.at U).Hg r.2 a i r.1/\(c.at U).Step h r.2
theorem JJ(ok:c.Ok):i64.wrap ((c.s.length:Int)+1)=((c.s.length+1:Nat):Int):=F3 (by have:=ok.len;omega)
theorem QL{L:Nat}{ys zs:List Bool}{j:Nat}(D:j<L)(ly:ys.length=L)(lz:zs.length=L):((List.range L).map λi=>ys.getD i false||zs.getD i false)[j]?=some true↔ys[j]?=some true\/zs[j]?=some true:=by
 have e1:ys[j]?=some (ys.getD j false):=by simp[ly,D]
 have e2:zs[j]?=some (zs.getD j false):=by simp[lz,D]
 rw[List.getElem?_map,List.getElem?_range D,e1,e2];simp
theorem Pp(ok:c.Ok){n x:Nat}(G:∀i,i<=c.s.length->c.MY n x i){U:Nat->Prop}(hU:∀y,U y->y<h.size)(i:(c.at U).I h){Z:Nat}{fs:List Bool}(bz:Bo h Z fs)(lz:fs.length=c.s.length+1):
  W ((NX (n+1)).Cd c.g h (some (c.m,0)) c.tree (x:Int) c.s ⟨some (Z,0),c.s.length+1⟩) λr=>∃Y bs,r.1=⟨some (Y,0),c.s.length+1⟩/\(c.at U).Loc Y h r.2 bs/\∀j,j<=c.s.length->(bs[j]?=some true↔∃k,k<=c.s.length/\fs[k]?=some true/\Mt c.ns c.s x 0 k j):=by
 show W (De (NX n) c.g h (some (c.m,0)) c.tree (x:Int) c.s ⟨some (Z,0),c.s.length+1⟩) _;have hlen:=ok.len;have hfl:=ok.fl;have hlt:c.R<h.size:=i.lt;have zlt:=h.BZ bz.get;unfold De;refine ES rfl ?_;simp only[qQ,JJ ok,xh];obtain⟨h1,e1⟩:∃h1,h1=h.push (.cells none 2 c.tree):=⟨_,rfl⟩;rw[<-e1,Nl (by omega)];simp only[qQ];have k1:EP none h h1:=by rw[e1];exact EP.push _ _ _
 have z1:h1.size=h.size+1:=by rw[e1];rfl
 have g1:h1.get h.size=some (.cells none 2 c.tree):=by rw[e1,AE.Bh]
 have st1:=Mk.Step.of i k1;have l2:=Mk.Loc.Ya (c:=c.at U) ⟨ok.fl,ok.len,ok.cnt,ok.may,ok.set⟩ st1.inv k1 st1.has;obtain⟨B,e2⟩:∃B,B=h1.push (.cells (some tB) 2 (GJ (List.replicate (c.s.length+1) false))):=⟨_,rfl⟩;have l2:(c.at U).Loc h1.size h B (List.replicate (c.s.length+1) false):=by rw[e2];exact l2
 have g2:B.get h.size=some (.cells none 2 c.tree):=by rw[e2];exact(EP.push none h1 _).Ep g1 (by simp)
 rw[<-e2]
 refine AP (W.mono (W.loop (λst=>∃(k:Nat) (bs:List Bool),st.1=k/\k<=c.s.length+1/\(c.at U).Loc h1.size h st.2 bs/\st.2.get h.size=some (.cells none 2 c.tree)/\∀j,j<=c.s.length->(bs[j]?=some true↔∃q,q<k/\fs[q]?=some true/\Mt c.ns c.s x 0 q j)) (λst=>c.s.length+1 - st.1.toNat)
  ⟨0,_,rfl,by omega,l2,g2,λj D=>Iff.intro (λh=>by have:=xc (q9 h);cases this) (λh=>by obtain⟨q,h,_⟩:=h;omega)⟩ ?_ (Q:=λN=>∃bs,(c.at U).Loc h1.size h N bs/\∀j,j<=c.s.length->(bs[j]?=some true↔∃q,q<c.s.length+1/\fs[q]?=some true/\Mt c.ns c.s x 0 q j))) ?_)
 ·rintro⟨_,N⟩ ⟨k,bs,rfl,F,l,gt,bits⟩;dsimp only at l gt;unfold E9;dsimp only;simp only[JJ ok,xh];refine Bi (λhle=>?_) (λhgt=>?_)
  ·have hle:k<=c.s.length:=by omega
   have fk:fs[k]?=some (fs.getD k false):=by rw[qY,List.getElem?_eq_getElem (by omega)];rfl
   rw[KH (by omega) Z];simp only[qQ,(l.fix.bo bz).ld fk];cases J:fs.getD k false
   ·rw[J]at fk;simp only[Ak,qQ];rw[F3 (by omega)];refine AG ⟨⟨k+1,bs,rfl,by omega,l,gt,λj D=>?_⟩,by dsimp only;omega⟩;rw[bits j D];constructor
    ·rintro⟨q,h1,B,C⟩;exact⟨q,by omega,B,C⟩
    ·rintro⟨q,h1,B,C⟩;refine⟨q,?_,B,C⟩;by_cases hq:q=k
     ·subst hq;rw[fk]at B;cases B
     ·omega
   ·rw[J]at fk;simp only[BL];have lA:Eb N (h.size,0) 2=some c.tree:=by rw[LO gt (by simp) (xb 2)];rfl
    rw[lA];simp only[qQ];refine AP (AP (W.mono (G k hle (λy=>U y\/y=h1.size) N ?_ l.inv) ?_))
    ·intro y hy;have:=l.fix.size;have:=N.BZ l.bo.get;rcases hy with hy|hy
     ·have:=hU y hy;omega
     ·omega
    rintro⟨x6,E⟩ ⟨⟨Q,qs,rfl,lq,bq,_,hq⟩,s4⟩;dsimp only at bq s4⊢;have l4:=l.call s4;have g4:=s4.fix.get _ _ gt (Et _ _);have hmay:c.g.may h1.size=true:=JZ l4.fl;have ln4:bs.length=c.s.length+1:=l4.ln;have lnq:qs.length=c.s.length+1:=lq;have ha:=Oz (g:=c.g) (L:=c.s.length+1) l4.bo bq hmay ln4 lnq (by omega);refine AP (W.mono ha ?_);rintro⟨_,K⟩ ⟨b5,o5⟩;dsimp only at b5 o5⊢;have l5:=l4.only o5 b5 (by rw[xq,xz]);have g5:=o5.Ep g4 (by intro he;have:=qV he;omega);generalize hE:((List.range (c.s.length+1)).map λi=>bs.getD i false||qs.getD i false)=es at l5;refine AG ?_;rw[F3 (by omega)];refine AG ⟨⟨k+1,es,rfl,by omega,l5,g5,λj D=>?_⟩,by dsimp only;omega⟩;rw[<-hE,QL (by omega) ln4 lnq,bits j D,hq j D];constructor
    ·rintro(⟨q,h1,B,C⟩|C)
     ·exact⟨q,by omega,B,C⟩
     ·exact⟨k,by omega,fk,C⟩
    ·rintro⟨q,h1,B,C⟩;by_cases hqk:q=k
     ·subst hqk;exact .inr C
     ·exact .inl ⟨q,by omega,B,C⟩
  ·have:k=c.s.length+1:=by omega
   subst this;exact AG ⟨bs,l,bits⟩
 ·rintro N ⟨bs,l,bits⟩;refine AG ⟨h1.size,bs,rfl,l,λj D=>?_⟩;rw[bits j D];constructor
  ·rintro⟨q,h1,B,C⟩;exact⟨q,by omega,B,C⟩
  ·rintro⟨q,h1,B,C⟩;exact⟨q,by omega,B,C⟩
end
section
variable {c:Mk} {h h':AE}
theorem Mk.Loc.step{Y:Nat}{M:AE}{bs:List Bool}(l:c.Loc Y M h bs):c.Step M h:=⟨l.inv.Qk,l.fix,l.has⟩
theorem Mk.Ok.at(ok:c.Ok)(U:Nat->Prop):(c.at U).Ok:=⟨ok.fl,ok.len,ok.cnt,ok.may,ok.set⟩
theorem TN{c0:Mk}(ok:c0.Ok){g:Gd}{h T:AE}{Y:Nat}{os bs:List Bool}(bo:Bo h T.size os)(bb:Bo h Y bs)(lo:os.length=c0.s.length+1)(lb:bs.length=c0.s.length+1)(hm:g.may Y=true)(hne:T.size≠Y):
  W (loop (DR g c0.s T ⟨some (Y,0),c0.s.length+1⟩) (false,(0:Int),h)) λr=>Bo r.2 Y ((List.range (c0.s.length+1)).map λi=>bs.getD i false&& !os.getD i false)/\EP (some Y) h r.2/\(r.1=true↔∃i,i<=c0.s.length/\bs.getD i false=true/\os.getD i false=false):=by
 let L:=c0.s.length+1
 let V:Nat->List Bool:=λk=>(List.range L).map λi=>if i<k then bs.getD i false&& !os.getD i false else bs.getD i false
 have hlen:=ok.len;refine W.mono (W.loop (λst=>∃k:Nat,st.2.1=k/\k<=L/\Bo st.2.2 Y (V k)/\EP (some Y) h st.2.2/\(st.1=true↔∃i,i<k/\bs.getD i false=true/\os.getD i false=false)) (λst=>L - st.2.1.toNat) ⟨0,rfl,by omega,?_,EP.refl _ _,by simp⟩ ?_ (Q:=λr=>Bo r.2 Y (V L)/\EP (some Y) h r.2/\(r.1=true↔∃i,i<L/\bs.getD i false=true/\os.getD i false=false))) ?_
 ·have:V 0=bs:=by
   apply xM (by simp[V,L,lb]);intro i h1 B;simp[V,B]
  show Bo h Y (V 0);rw[this];exact bb
 ·rintro⟨fr,_,N⟩ ⟨k,rfl,F,bv,o,hf⟩;dsimp only at bv o hf;unfold DR;dsimp only;simp only[JJ ok,xh];refine Bi (λhle=>?_) (λhgt=>?_)
  ·have hlt:k<L:=by show k<c0.s.length+1;omega
   have vk:(V k)[k]?=some (bs.getD k false):=by simp[V,hlt]
   have ok_:os[k]?=some (os.getD k false):=by rw[qY,List.getElem?_eq_getElem (by omega)];rfl
   rw[KH hlt Y];simp only[qQ,bv.ld vk];rw[KH hlt T.size];have lo':S3 N (T.size,k)=some (os.getD k false):=(Bo.mk (o.Ep bo.get (by simpa using hne))).ld ok_;simp only[qQ,lo'];rw[show(Aj (bs.getD k false) (some (!os.getD k false)) (some false):Option Bool)=some (bs.getD k false&& !os.getD k false) from Ta _ _];simp only[qQ];obtain⟨B,es,b2,o2,z2⟩:=bv.st (g:=g) hm (i:=k) (by simp[V];exact hlt) (bs.getD k false&& !os.getD k false);rw[es];simp only[qQ];have v2:((V k).set k (bs.getD k false&& !os.getD k false))[k]?=some (bs.getD k false&& !os.getD k false):=by rw[List.getElem?_set_self (by simp[V];exact hlt)]
   simp only[b2.ld v2,qQ,Ss];rw[F3 (by omega)];refine AG ⟨⟨k+1,rfl,by show k+1<=c0.s.length+1;omega,?_,o.trans o2,?_⟩,by dsimp only;omega⟩
   ·dsimp only;have:(V k).set k (bs.getD k false&& !os.getD k false)=V (k+1):=by
     apply xM (by simp[V]);intro i h1 B;rw[List.getElem_set];by_cases hi:k=i
     ·subst hi;simp[V]
     ·rw[xd hi];simp only[V,List.getElem_map,List.getElem_range];by_cases C:i<k
      ·rw[xf C,xf (by omega)]
      ·rw[xd C,xd (by omega)]
    rw[<-this];exact b2
   ·dsimp only;rw[xQ,hf,xa,xj];constructor
    ·rintro(⟨i,h1,B⟩|B)
     ·exact⟨i,by omega,B⟩
     ·exact⟨k,by omega,B⟩
    ·rintro⟨i,h1,B⟩;by_cases hik:i=k
     ·subst hik;exact .inr B
     ·exact .inl ⟨i,by omega,B⟩
  ·have:k=L:=by show k=c0.s.length+1;have:k<=c0.s.length+1:=F;omega
   subst this;exact AG ⟨bv,o,hf⟩
 ·rintro r ⟨h1,B,C⟩;refine⟨?_,B,?_⟩
  ·have:V L=(List.range (c0.s.length+1)).map λi=>bs.getD i false&& !os.getD i false:=by
    apply xF;intro i hi;rw[xf (xG.1 hi)]
   rw[<-this];exact h1
  ·rw[C];constructor
   ·rintro⟨i,E,K⟩;exact⟨i,by have:i<c0.s.length+1:=E;omega,K⟩
   ·rintro⟨i,E,K⟩;exact⟨i,by show i<c0.s.length+1;omega,K⟩
theorem Mt.top{ns:List Nd}{s:List UInt8}{a:Nat}{t:Int}{i j:Nat}(m:Mt ns s a t i j):i<=s.length->j<=s.length:=by
 induction m with
 |empty _ _=>exact λh=>h
 |one _ _ J _=>intro _;have:=(List.getElem?_eq_some_iff.1 J).1;omega
 |front _ _=>exact λh=>h
 |back _ _=>exact λh=>h
 |Kr _ _ _ _ ih=>exact ih
 |Kw _ _ _ _ ih=>exact ih
 |group _ _ _ _ ih=>exact ih
 |cat _ _ _ _ _ _ ih1 ih2=>exact λh=>ih2 (ih1 h)
 |GV _ _ _=>exact λh=>h
 |E7 _ _ _ _ _ _ _ ih1 ih2=>exact λh=>ih2 (ih1 h)
theorem It.top{ns:List Nd}{s:List UInt8}{x r i j:Nat}(m:It ns s x r i j):i<=s.length->j<=s.length:=by
 induction m with
 |z=>exact λh=>h
 |s m _ ih=>exact λh=>ih (m.top h)
theorem Mk.Loc.begin{M:AE}(ok:c.Ok)(s:c.Step M h):c.Loc h.size M (h.push (.cells (some tB) 2 (GJ (List.replicate (c.s.length+1) false)))) (List.replicate (c.s.length+1) false):=by
 have l:=Mk.Loc.Ya ok s.inv (EP.refl none h) (λ_ x=>x);exact⟨l.inv,s.fix.trans l.fix,λa x=>l.has a (s.has a x),l.bo,l.ln,s.fix.size,l.fl⟩
end
section
variable {c:Mk} {h h':AE}
theorem Dk.top{ns:List Nd}{s:List UInt8}{x lo i k j:Nat}(d:Dk ns s x lo i k j)(hi:i<=s.length):j<=s.length:=by
 obtain⟨r,_,m⟩:=d;exact m.top hi
theorem Sx(ok:c.Ok){n x:Nat}(G:∀i,i<=c.s.length->c.MY n x i){U:Nat->Prop}(hU:∀y,U y->y<h.size){nd:Nd}(hxa:nd.a=x)(hmi:0<=nd.mi/\nd.mi<=255){i:Nat}(hi:i<=c.s.length)
  {Th T1:Nat} {h1 E:AE} (eT:T1=h1.size) {Y0:Nat} (st4:(c.at U).Step h E) (gt:E.get Th=some (.cells none 2 c.tree)) (gn:E.get T1=some (.cells none 2 (JB nd))) {hT:AE} (eTh:Th=hT.size) (b4:Bo E Y0 ((List.replicate (c.s.length+1) false).set i true)):
  W (loop (DS (NX (n+1)) c.g hT (some (c.m,0)) c.s h1) ((⟨some (Y0,0),c.s.length+1⟩:Sl),(0:Int),E)) λr=>∃Y bs,r.1=⟨some (Y,0),c.s.length+1⟩/\bs.length=c.s.length+1/\Bo r.2 Y bs/\(c.at U).Step h r.2/\r.2.get Th=some (.cells none 2 c.tree)/\r.2.get T1=some (.cells none 2 (JB nd))/\∀j,j<=c.s.length->(bs[j]?=some true↔It c.ns c.s x nd.mi.toNat i j):=by
 have hlen:=ok.len;refine W.loop (λst=>∃(k Y:Nat) (bs:List Bool),st.2.1=k/\(k:Int)<=nd.mi/\st.1=⟨some (Y,0),c.s.length+1⟩/\bs.length=c.s.length+1/\Bo st.2.2 Y bs/\(c.at U).Step h st.2.2/\st.2.2.get Th=some (.cells none 2 c.tree)/\st.2.2.get T1=some (.cells none 2 (JB nd))/\∀j,j<=c.s.length->(bs[j]?=some true↔It c.ns c.s x k i j)) (λst=>(nd.mi - st.2.1).toNat)
  ⟨0,Y0,_,rfl,hmi.1,rfl,by simp,b4,st4,gt,gn,λj D=>?_⟩ ?_
 ·constructor
  ·intro J;by_cases hij:i=j
   ·subst hij;exact .z
   ·rw[List.getElem?_set_ne hij]at J;have:=xc (q9 J);cases this
  ·intro hI;cases hI;rw[List.getElem?_set_self (by simp;omega)]
 ·rintro⟨_,_,K⟩ ⟨k,Y,bs,rfl,F,rfl,ln,b5,s5,gt5,gn5,bits⟩;dsimp only at b5 s5 gt5 gn5;unfold DS;dsimp only;subst eT eTh;have l3:Ot K (h1.size,3) .i64=some nd.mi:=Kb gn5 (by simp) rfl;have l1:Ot K (h1.size,1) .i64=some nd.a:=Kb gn5 (by simp) rfl;have lA:Eb K (hT.size,0) 2=some c.tree:=by rw[LO gt5 (by simp) (xb 2)];rfl
  rw[l3];simp only[qQ];refine Bi (λhlt=>?_) (λhge=>?_)
  ·rw[lA];simp only[qQ];rw[l1];simp only[qQ];rw[hxa];refine AP (W.mono (Pp ok G (U:=U) (λy hy=>by have:=hU y hy;have:=s5.fix.size;omega) s5.inv b5 ln) ?_);rintro⟨_,H⟩ ⟨Y',bs',rfl,l6,bits'⟩;dsimp only at l6⊢;rw[F3 (by omega)];refine AG ⟨⟨k+1,Y',bs',rfl,by omega,rfl,l6.ln,l6.bo,s5.trans l6.step,l6.fix.get _ _ gt5 (Et _ _),l6.fix.get _ _ gn5 (Et _ _),λj D=>?_⟩,by dsimp only;omega⟩;rw[bits' j D];constructor
   ·rintro⟨q,h1,B,C⟩;exact((bits q h1).1 B).snoc C
   ·intro hI;obtain⟨q,h1,B⟩:=hI.last;have:=h1.top hi;exact⟨q,this,(bits q this).2 h1,B⟩
  ·have:(k:Int)=nd.mi:=by omega
   refine AG ⟨Y,bs,rfl,ln,b5,s5,gt5,gn5,λj D=>?_⟩;rw[show nd.mi.toNat=k by omega];exact bits j D
end
section
variable {c:Mk} {h h':AE}
theorem Vm{L:Nat}{ys zs:List Bool}{j:Nat}(D:j<L)(ly:ys.length=L)(lz:zs.length=L):((List.range L).map λi=>ys.getD i false&& !zs.getD i false)[j]?=some true↔ys[j]?=some true/\¬zs[j]?=some true:=by
 have e1:ys[j]?=some (ys.getD j false):=by rw[qY,List.getElem?_eq_getElem (by omega)];rfl
 have e2:zs[j]?=some (zs.getD j false):=by rw[qY,List.getElem?_eq_getElem (by omega)];rfl
 rw[List.getElem?_map,List.getElem?_range D,e1,e2];simp
theorem Qv{L:Nat}{ys:List Bool}{j:Nat}(D:j<L)(ly:ys.length=L):ys.getD j false=true↔ys[j]?=some true:=by
 have e1:ys[j]?=some (ys.getD j false):=by rw[qY,List.getElem?_eq_getElem (by omega)];rfl
 rw[e1];simp
theorem Uf(ok:c.Ok){n x:Nat}(G:∀i,i<=c.s.length->c.MY n x i){U:Nat->Prop}(hU:∀y,U y->y<h.size){nd:Nd}(hxa:nd.a=x){i:Nat}(hi:i<=c.s.length){lo more:Nat}(hmore:more<=c.s.length+1)
  {h1 T hT h9:AE} {x14:Int} (hmn:mn x14 ((c.s.length+1:Nat):Int)=(more:Int)) {Y0:Nat} {ws os:List Bool} (lw:ws.length=c.s.length+1) (b9:Bo h9 Y0 ws) (l9:(c.at U).Loc T.size h h9 os)
  (gt:h9.get hT.size=some (.cells none 2 c.tree)) (gn:h9.get h1.size=some (.cells none 2 (JB nd))) (nT:hT.size≠T.size) (n1:h1.size≠T.size)
  (eo:∀j,j<=c.s.length->(os[j]?=some true↔Dk c.ns c.s x lo i 0 j)) (ew:∀j,j<=c.s.length->(ws[j]?=some true↔Dk c.ns c.s x lo i 0 j)):
  W (loop (DU (NX (n+1)) c.g hT (some (c.m,0)) c.s h1 T x14) ((⟨some (Y0,0),c.s.length+1⟩:Sl),(0:Int),h9)) λr=>∃N os,(r=.inl N\/r=.inr (⟨some (T.size,0),c.s.length+1⟩,N))/\(c.at U).Loc T.size h N os/\∀j,j<=c.s.length->(os[j]?=some true↔Dk c.ns c.s x lo i more j):=by
 have hlen:=ok.len
 refine W.loop (λst=>∃(k Y:Nat) (ws os:List Bool),st.2.1=k/\k<=more/\st.1=⟨some (Y,0),c.s.length+1⟩/\ws.length=c.s.length+1/\Bo st.2.2 Y ws/\(c.at U).Loc T.size h st.2.2 os/\st.2.2.get hT.size=some (.cells none 2 c.tree)/\st.2.2.get h1.size=some (.cells none 2 (JB nd))/\
   (∀j,j<=c.s.length->(os[j]?=some true↔Dk c.ns c.s x lo i k j))/\(∀j,j<=c.s.length->ws[j]?=some true->Dk c.ns c.s x lo i k j)/\
   ∀j,j<=c.s.length->Dk c.ns c.s x lo i (k+1) j->Dk c.ns c.s x lo i k j\/∃m,m<=c.s.length/\ws[m]?=some true/\Mt c.ns c.s x 0 m j) (λst=>more - st.2.1.toNat)
  ⟨0,Y0,ws,os,rfl,by omega,rfl,lw,b9,l9,gt,gn,eo,λj D hw=>(ew j D).1 hw,λj D hd=>?_⟩ ?_
 ·rcases Dk.succ.1 hd with B|⟨m,B,C⟩
  ·exact .inl B
  ·exact .inr ⟨m,B.top hi,(ew m (B.top hi)).2 B,C⟩
 ·rintro⟨_,_,h10⟩ ⟨k,Y,ws,os,rfl,F,rfl,lw,b10,l10,gt10,gn10,eo,ew,cl⟩;dsimp only at b10 l10 gt10 gn10;unfold DU;dsimp only;simp only[JJ ok,xh];rw[hmn];have l1:Ot h10 (h1.size,1) .i64=some nd.a:=Kb gn10 (by simp) rfl;have lA:Eb h10 (hT.size,0) 2=some c.tree:=by rw[LO gt10 (by simp) (xb 2)];rfl
  refine Bi (λhlt=>?_) (λhge=>?_)
  ·have hlt:k<more:=by omega
   rw[lA];simp only[qQ];rw[l1];simp only[qQ];rw[hxa];have zO:=h10.BZ l10.bo.get;have hU2:∀y,(U y\/y=T.size)->y<h10.size:=by
    intro y hy;have hz:=l10.fix.size;rcases hy with hy|hy
    ·have:=hU y hy;omega
    ·omega
   refine AP (W.mono (Pp ok G (U:=λy=>U y\/y=T.size) (h:=h10) hU2 l10.inv b10 lw) ?_);rintro⟨_,h11⟩ ⟨Y',bs,rfl,l11,bits⟩;dsimp only at l11⊢;have lO:=l10.call l11.step;have nOY:T.size≠Y':=by have:=l11.new;omega
   have lnO:os.length=c.s.length+1:=l10.ln;have lnB:bs.length=c.s.length+1:=l11.ln;have hmY:c.g.may Y'=true:=JZ l11.fl;refine AP (W.mono (TN ok (g:=c.g) lO.bo l11.bo lnO lnB hmY nOY) ?_);rintro⟨fr,h14⟩ ⟨b14,o14,hfr⟩;dsimp only at b14 o14 hfr⊢;have l14:=l11.only o14 b14 (by rw[xq,xz]);have lO14:=l10.call l14.step;generalize hV:((List.range (c.s.length+1)).map λi=>bs.getD i false&& !os.getD i false)=vs at b14 l14;have lnV:vs.length=c.s.length+1:=l14.ln;have ev:∀j,j<=c.s.length->(vs[j]?=some true↔bs[j]?=some true/\¬os[j]?=some true):=λj D=>by rw[<-hV];exact Vm (by omega) lnB lnO
   have st1:∀j,j<=c.s.length->(Dk c.ns c.s x lo i (k+1) j↔os[j]?=some true\/vs[j]?=some true):=by
    intro j D;constructor
    ·intro hd;by_cases ho:os[j]?=some true
     ·exact .inl ho
     ·rcases cl j D hd with B|⟨m,B,C,E⟩
      ·exact .inl ((eo j D).2 B)
      ·exact .inr ((ev j D).2 ⟨(bits j D).2 ⟨m,B,C,E⟩,ho⟩)
    ·rintro(B|B)
     ·exact((eo j D).1 B).mono (by omega)
     ·obtain⟨m,C,E,K⟩:=(bits j D).1 ((ev j D).1 B).1;exact Dk.succ.2 (.inr ⟨m,ew m C E,K⟩)
   refine Ap (λhno=>?_) (λhyes=>?_)
   ·have hno:fr=false:=by simpa using hno
    refine AG ⟨h14,os,.inr rfl,lO14,λj D=>?_⟩;rw[eo j D];have stop:∀j,Dk c.ns c.s x lo i (k+1) j->Dk c.ns c.s x lo i k j:=by
     intro j hd;have D:=hd.top hi;rcases(st1 j D).1 hd with B|B
     ·exact(eo j D).1 B
     ·exfalso;have C:=(ev j D).1 B
      have:fr=true:=hfr.2 ⟨j,D,(Qv (by omega) lnB).2 C.1,by
       have:=C.2;rw[<-Qv (by omega) lnO]at this
       simpa using this⟩
      rw[hno]at this;cases this
    constructor
    ·exact Dk.mono F
    ·intro hd;exact Dk.stop stop (more - k) j (by rw[show k+(more - k)=more by omega];exact hd)
   ·have hmO:c.g.may T.size=true:=JZ l10.fl;refine AP (W.mono (Oz (g:=c.g) (L:=c.s.length+1) lO14.bo b14 hmO lnO lnV (by omega)) ?_);rintro⟨_,h15⟩ ⟨b15,o15⟩;dsimp only at b15 o15⊢;have l15:=lO14.only o15 b15 (by rw[xq,xz]);generalize hE:((List.range (c.s.length+1)).map λi=>os.getD i false||vs.getD i false)=es at l15;have ee:∀j,j<=c.s.length->(es[j]?=some true↔Dk c.ns c.s x lo i (k+1) j):=λj D=>by rw[<-hE,QL (by omega) lnO lnV,st1 j D]
    rw[F3 (by omega)];refine AG ⟨⟨k+1,Y',vs,es,rfl,by omega,rfl,lnV,⟨o15.Ep b14.get (by intro he;have:=qV he;omega)⟩,l15,?_,?_,ee,λj D hv=>(st1 j D).2 (.inr hv),λj D hd=>?_⟩,by dsimp only;omega⟩
    ·exact o15.Ep (l14.fix.get _ _ gt10 (Et _ _)) (by intro he;exact nT (qV he))
    ·exact o15.Ep (l14.fix.get _ _ gn10 (Et _ _)) (by intro he;exact n1 (qV he))
    ·rcases Dk.succ.1 hd with B|⟨m,B,C⟩
     ·exact .inl B
     ·have hm:=B.top hi;rcases(st1 m hm).1 B with E|E
      ·exact .inl (Dk.succ.2 (.inr ⟨m,(eo m hm).1 E,C⟩))
      ·exact .inr ⟨m,hm,E,C⟩
  ·have:k=more:=by omega
   subst this;exact AG ⟨h10,os,.inl rfl,l10,eo⟩
end
section
variable {c:Mk} {h h':AE}
theorem RH(ok:c.Ok){n x:Nat}(G:∀i,i<=c.s.length->c.MY n x i){U:Nat->Prop}(hU:∀y,U y->y<h.size)(i0:(c.at U).I h){a:Nat}{nd:Nd}(hn:c.ns[a]?=some nd)(F:nd.k=4)(hxa:nd.a=x){i:Nat}(hi:i<=c.s.length):
  W ((NX (n+2)).Cg c.g h (some (c.m,0)) c.tree (JB nd) c.s (i:Int)) λr=>∃O os,r.1=⟨some (O,0),c.s.length+1⟩/\(c.at U).Loc O h r.2 os/\∀j,j<=c.s.length->(os[j]?=some true↔Mt c.ns c.s a 0 i j):=by
 show W (DE (NX (n+1)) c.g h (some (c.m,0)) c.tree (JB nd) c.s (i:Int)) _;have hlen:=ok.len;have hfl:=ok.fl;have hlt:c.R<h.size:=i0.lt;obtain⟨_,_,_,_,_,_,_,hb4,_⟩:=ok.may a nd hn;obtain⟨m1,m2,m3,m4,m5⟩:=hb4 F;unfold DE;refine ES rfl ?_;simp only[qQ,JJ ok,xh];obtain⟨h1,e1⟩:∃h1,h1=h.push (.cells none 2 c.tree):=⟨_,rfl⟩;rw[<-e1];refine ES rfl ?_;obtain⟨B,e2⟩:∃B,B=h1.push (.cells none 2 (JB nd)):=⟨_,rfl⟩;rw[<-e2,Nl (by omega)];simp only[qQ];obtain⟨C,e3⟩:∃C,C=B.push (.cells (some tB) 2 (GJ (List.replicate (c.s.length+1) false))):=⟨_,rfl⟩;rw[<-e3];have z1:h1.size=h.size+1:=by rw[e1];rfl
 have z2:B.size=h1.size+1:=by rw[e2];rfl
 have k1:EP none h h1:=by rw[e1];exact EP.push _ _ _
 have k2:EP none h1 B:=by rw[e2];exact EP.push _ _ _
 have k3:EP none B C:=by rw[e3];exact EP.push _ _ _
 have g1:h1.get h.size=some (.cells none 2 c.tree):=by rw[e1,AE.Bh]
 have g2:B.get h1.size=some (.cells none 2 (JB nd)):=by rw[e2,AE.Bh]
 have b3:Bo C B.size (List.replicate (c.s.length+1) false):=⟨by rw[e3,AE.Bh]⟩;rw[KH (by omega) B.size];simp only[qQ];obtain⟨E,es,b4,o4,z4⟩:=b3.st (g:=c.g) (JZ (show c.fl<=B.size by omega)) (i:=i) (by simp;omega) true;rw[es];simp only[qQ];have g4t:E.get h.size=some (.cells none 2 c.tree):=o4.Ep (k3.Ep (k2.Ep g1 (by simp)) (by simp)) (by intro he;have:=qV he;omega);have g4n:E.get h1.size=some (.cells none 2 (JB nd)):=o4.Ep (k3.Ep g2 (by simp)) (by intro he;have:=qV he;omega);have k03:=(k1.trans k2).trans k3;have k4:EP none h E:=⟨by have:=k03.size;omega,λid hid _=>by rw[o4.get id (by have:=k03.size;omega) (by intro he;have:=qV he;omega),k03.get id hid (by simp)]⟩;have st4:(c.at U).Step h E:=Mk.Step.of i0 k4;refine AP (W.mono (Sx ok G hU (nd:=nd) hxa ⟨m1,m2⟩ hi rfl st4 g4t g4n rfl b4) ?_);rintro⟨_,T⟩ ⟨Y0,ws,rfl,lw,b7,s7,g7t,g7n,ew⟩;dsimp only at b7 s7 g7t g7n⊢;have z7:=s7.fix.size;have l8:=Mk.Loc.begin (ok.at U) s7;obtain⟨h8,e8⟩:∃h8,h8=T.push (.cells (some tB) 2 (GJ (List.replicate (c.s.length+1) false))):=⟨_,rfl⟩;have l8:(c.at U).Loc T.size h h8 (List.replicate (c.s.length+1) false):=by rw[e8];exact l8
 have k8:EP none T h8:=by rw[e8];exact EP.push _ _ _
 rw[<-e8];have zt:=T.BZ g7t;have zn:=T.BZ g7n;have zy:=T.BZ b7.get;have lz:(List.replicate (c.s.length+1) false).length=c.s.length+1:=by simp
 refine AP (W.mono (Oz (g:=c.g) (L:=c.s.length+1) l8.bo (Bo.mk (k8.Ep b7.get (by simp))) (JZ l8.fl) lz lw (by omega)) ?_);rintro⟨_,h9⟩ ⟨b9,o9⟩;dsimp only at b9 o9⊢;have l9:=l8.only o9 b9 (by rw[xq,xz]);generalize hE:((List.range (c.s.length+1)).map λi=>(List.replicate (c.s.length+1) false).getD i false||ws.getD i false)=os at l9;have ne:∀id,id<T.size->some id≠some T.size:=λid hid he=>by have:=qV he;omega
 have g9t:=o9.Ep (k8.Ep g7t (by simp)) (ne _ zt);have g9n:=o9.Ep (k8.Ep g7n (by simp)) (ne _ zn);have bw:Bo h9 Y0 ws:=⟨o9.Ep (k8.Ep b7.get (by simp)) (ne _ zy)⟩;have ew0:∀j,j<=c.s.length->(ws[j]?=some true↔Dk c.ns c.s x nd.mi.toNat i 0 j):=λj D=>by rw[ew j D,Dk.zero]
 have eo0:∀j,j<=c.s.length->(os[j]?=some true↔Dk c.ns c.s x nd.mi.toNat i 0 j):=λj D=>by
  rw[<-hE,QL (by omega) lz lw,ew0 j D];constructor
  ·rintro(B|B)
   ·have:=xc (q9 B);cases this
   ·exact B
  ·exact .inr
 have l4:Ot h9 (h1.size,4) .i64=some nd.ma:=Kb g9n (by simp) rfl;have l3:Ot h9 (h1.size,3) .i64=some nd.mi:=Kb g9n (by simp) rfl;simp only[l4,l3,qQ];obtain⟨x14,e14,hx14⟩:∃x14,(Aj (decide (nd.ma<(0:Int))) (some ((c.s.length+1:Nat):Int)) (some (i64.wrap (nd.ma - nd.mi))):Option Int)=some x14/\x14=if nd.ma<0 then((c.s.length+1:Nat):Int)else nd.ma - nd.mi:=by
  by_cases hneg:nd.ma<0
  ·exact⟨_,by rw[decide_eq_true hneg];rfl,by rw[xf hneg]⟩
  ·exact⟨_,by rw[decide_eq_false hneg];rfl,by rw[xd hneg,Jr (by omega) (by omega)]⟩
 rw[e14];simp only[qQ];obtain⟨more,hm⟩:∃more:Nat,more=if nd.ma<0 then c.s.length+1 else min (nd.ma - nd.mi).toNat (c.s.length+1):=⟨_,rfl⟩
 have hmle:more<=c.s.length+1:=by rw[hm];split<;>omega
 have hmn:mn x14 ((c.s.length+1:Nat):Int)=(more:Int):=by
  unfold mn;rw[hx14,hm];by_cases hneg:nd.ma<0
  ·rw[xf hneg,xf hneg,xd (by omega)]
  ·have:=m5 (by omega);rw[xd hneg,xd hneg];split<;>omega
 refine AP (W.mono (Uf ok G hU hxa hi hmle hmn lw bw l9 g9t g9n (by omega) (by omega) eo0 ew0) ?_);rintro o ⟨N,os',ho,lf,ef⟩;have fin:∀j,j<=c.s.length->(os'[j]?=some true↔Mt c.ns c.s a 0 i j):=λj D=>by
  rw[ef j D,WM hn F hxa m1 (λh=>m5 h) D hm]
 rcases ho with rfl|rfl
 ·exact AG ⟨T.size,os',rfl,lf,fin⟩
 ·exact AG ⟨T.size,os',rfl,lf,fin⟩
end
section
variable {c:Mk} {h h':AE}
theorem Mk.I.place(i0:c.I h){a:Nat}(k:c.Has h a){p:Nat}(hp:p<=c.s.length):∃X q,Lz h (c.R,a)=some ⟨some (X,0),c.s.length+1⟩/\Jp (⟨some (X,0),c.s.length+1⟩:Sl) 1 (p:Int)=some (X,p)/\Lz h (X,p)=some q/\(q=(⟨none,0⟩:Sl)\/c.Hg h a p q):=by
 obtain⟨X,qs,hX,hfl,hg,hq,hall⟩:=k.row i0;have G:qs[p]?=some qs[p]:=List.getElem?_eq_getElem (by omega);exact⟨X,qs[p],hX,KH (by omega) X,Ja hg (by simp) (Jo G),hall p _ G⟩
theorem Mk.Loc.put(ok:c.Ok){O:Nat}{M:AE}{os:List Bool}(l:c.Loc O M h os)(hU:∀y,c.U y->y<M.size){a p:Nat}(hs:c.Has h a)(hp:p<=c.s.length)(J:∀j,j<=c.s.length->(os[j]?=some true↔Mt c.ns c.s a 0 p j)):
  ∃X h',Lz h (c.R,a)=some ⟨some (X,0),c.s.length+1⟩/\Jp (⟨some (X,0),c.s.length+1⟩:Sl) 1 (p:Int)=some (X,p)/\st c.g h (X,p) [.slice (some (O,0)) (c.s.length+1)]=some h'/\c.Hg h' a p ⟨some (O,0),c.s.length+1⟩/\c.Step M h':=by
 have e:c.Hg h a p ⟨some (O,0),c.s.length+1⟩:=⟨O,os,rfl,l.ln,l.bo,λhu=>by have:=hU O hu;have:=l.new;omega,J⟩;obtain⟨X,h',h1,B,C,E⟩:=l.inv.Qk.put ok hs hp e;exact⟨X,h',h1,B,C,e.fix E.fix,l.step.trans E⟩
end
section
variable {c:Mk} {h h':AE}
theorem Mk.Loc.one(ok:c.Ok){O:Nat}{M:AE}(l:c.Loc O M h (List.replicate (c.s.length+1) false)){p:Nat}(hp:p<=c.s.length)(v:Bool):∃h',st c.g h (O,p) [.bool v]=some h'/\(∀a,c.Has h a->c.Has h' a)/\c.Loc O M h' ((List.replicate (c.s.length+1) false).set p v)/\∀j,(((List.replicate (c.s.length+1) false).set p v)[j]?=some true↔j=p/\v=true):=by
 obtain⟨h',es,b,o,z⟩:=l.bo.st (g:=c.g) (JZ l.fl) (i:=p) (by simp;omega) v;refine⟨h',es,(l.inv.only (.inr rfl) l.bo o).2,l.only o b (by simp),λj=>?_⟩;by_cases D:p=j
 ·subst D;rw[List.getElem?_set_self (by simp;omega)];simp
 ·rw[List.getElem?_set_ne D];constructor
  ·intro h1;have:=xc (q9 h1);cases this
  ·rintro⟨rfl,_⟩;exact absurd rfl D
theorem Mk.Loc.add(ok:c.Ok){O:Nat}{M:AE}{os:List Bool}(l:c.Loc O M h os){Q:Nat}{qs:List Bool}(bq:Bo h Q qs)(lq:qs.length=c.s.length+1):W (B4 c.g h ⟨some (O,0),c.s.length+1⟩ ⟨some (Q,0),c.s.length+1⟩) λr=>∃es,c.Loc O M r.2 es/\EP (some O) h r.2/\(∀a,c.Has h a->c.Has r.2 a)/\∀j,j<=c.s.length->(es[j]?=some true↔os[j]?=some true\/qs[j]?=some true):=by
 have hlen:=ok.len;have lo:os.length=c.s.length+1:=l.ln;refine W.mono (Oz (g:=c.g) (L:=c.s.length+1) l.bo bq (JZ l.fl) lo lq (by omega)) ?_;rintro⟨_,B⟩ ⟨b2,o2⟩;exact⟨_,l.only o2 b2 (by rw[xq,xz]),o2,(l.inv.only (.inr rfl) l.bo o2).2,λj D=>QL (by omega) lo lq⟩
end
section
variable {c:Mk} {h h':AE}
theorem Se{n:Nat}(h:n<=1000000):NG 24 [.slice none 0] (n:Int) (n:Int)=some (List.replicate n (.slice none 0)):=by
 unfold NG;rw[xf (by omega),xh,MM]
theorem TJ(ok:c.Ok)(i0:c.I h){a:Nat}(ha:a<c.ns.length):
  W (((some (c.m,0):Option (Nat×Nat))).bind λa1=>(Lz h (a1.1,a1.2+0)).bind λx1=>(Jp x1 1 (a:Int)).bind λa2=>(Lz h (a2.1,a2.2)).bind λx2=>Aj x2.r.isNone ((some (c.m,0)).bind λa3=>(Lz h (a3.1,a3.2+0)).bind λx3=>(NG 24 [.slice none 0] (i64.wrap ((c.s.length:Int)+(1:Int))) (i64.wrap ((c.s.length:Int)+(1:Int)))).bind λx4=>(some (h.push (.cells (some tR) 2 x4))).bind λB=>(Jp x3 1 (a:Int)).bind λa4=>(st c.g B (a4.1,a4.2) [.slice (some (h.size,0)) ((i64.wrap ((c.s.length:Int)+(1:Int))).toNat)]).bind λC=>some C) (some h):Option AE)
   λE=>c.Step h E/\c.Has E a:=by
 have hlen:=ok.len;have hfl:=ok.fl;have hlt:=i0.lt;obtain⟨r,e1,e2,e3,hr⟩:=i0.look ha;simp only[qQ,JJ ok,xh];rw[e1];simp only[qQ];rw[e2];simp only[qQ];rw[e3];simp only[qQ];rcases hr with rfl|⟨X,qs,rfl,_,hg,_,_⟩
 ·rw[show((⟨none,0⟩:Sl).r.isNone)=true from rfl];simp only[BL];rw[Se (by omega)];simp only[qQ];obtain⟨B,C,eh2,es,st3,hs⟩:=i0.make ok ha (by omega);rw[<-eh2,es];exact AG ⟨st3,hs⟩
 ·rw[show((⟨some (X,0),c.s.length+1⟩:Sl).r.isNone)=false from rfl];simp only[Ak];exact AG ⟨Mk.Step.of i0 (EP.refl _ _),X,e3⟩
end
section
section
variable {ns:List Nd} {s:List UInt8} {a:Nat} {nd:Nd} {t:Int} {i j:Nat}
theorem Ws(G:ns[a]?=some nd)(F:nd.k=0):Mt ns s a t i j↔j=i:=by
 constructor
 ·intro m;cases m<;>simp_all
 ·rintro rfl;exact .empty G F
theorem WD(G:ns[a]?=some nd)(F:nd.k=6):Mt ns s a t i j↔i=0/\j=0:=by
 constructor
 ·intro m;cases m<;>simp_all
 ·rintro⟨rfl,rfl⟩;exact .front G F
theorem Wo(G:ns[a]?=some nd)(F:nd.k=7):Mt ns s a t i j↔i=s.length/\j=s.length:=by
 constructor
 ·intro m;cases m<;>simp_all
 ·rintro⟨rfl,rfl⟩;exact .back G F
theorem inv1(G:ns[a]?=some nd)(F:nd.k=1):Mt ns s a t i j↔j=i+1/\∃b,s[i]?=some b/\hasB nd b.toNat=true:=by
 constructor
 ·intro m;cases m<;>simp_all
 ·rintro⟨rfl,b,h1,B⟩;exact .one G F h1 B
theorem Vi{x y:Nat}(G:ns[a]?=some nd)(F:nd.k=3)(ha:nd.a=x)(J:nd.b=y):Mt ns s a t i j↔Mt ns s x 0 i j\/Mt ns s y 0 i j:=by
 constructor
 ·intro m;cases m with
  |Kr h k e m=>rw[G]at h;cases h;rw[ha]at e;cases Int.ofNat.inj e;exact .inl m
  |Kw h k e m=>rw[G]at h;cases h;rw[J]at e;cases Int.ofNat.inj e;exact .inr m
  |_=>simp_all
 ·rintro(m|m)
  ·exact .Kr G F ha m
  ·exact .Kw G F J m
theorem U2{x:Nat}(G:ns[a]?=some nd)(F:nd.k=5)(ha:nd.a=x):Mt ns s a t i j↔Mt ns s x 0 i j:=by
 constructor
 ·intro m;cases m with
  |group h k e m=>rw[G]at h;cases h;rw[ha]at e;cases Int.ofNat.inj e;exact m
  |_=>simp_all
 ·exact λm=>.group G F ha m
theorem inv2{x y:Nat}(G:ns[a]?=some nd)(F:nd.k=2)(ha:nd.a=x)(J:nd.b=y):Mt ns s a t i j↔∃k,Mt ns s x 0 i k/\Mt ns s y 0 k j:=by
 constructor
 ·intro m;cases m with
  |cat h k e1 e2 m1 m2=>rw[G]at h;cases h;rw[ha]at e1;rw[J]at e2;cases Int.ofNat.inj e1;cases Int.ofNat.inj e2;exact⟨_,m1,m2⟩
  |_=>simp_all
 ·rintro⟨k,m1,m2⟩;exact .cat G F ha J m1 m2
end
end
section
variable {c:Mk} {h h':AE}
theorem S9(ok:c.Ok)(a:Nat):a<c.ns.length->∀n,3*(a+1)<=n->∀i,i<=c.s.length->c.MY n a i:=by
 induction a using Nat.strongRecOn with
 |ind a IH=>
 intro ha n hn i hi U h hU i0;have hlen:=ok.len;have hfl:=ok.fl;have hlt:c.R<h.size:=i0.lt;obtain⟨n',rfl⟩:∃n',n=n'+3:=⟨n - 3,by omega⟩;show W (Dd (NX (n'+2)) c.g h (some (c.m,0)) c.tree (a:Int) c.s (i:Int)) _;unfold Dd;refine ES rfl (AP (AG ?_));have k1:EP none h (h.push (.cells none 2 c.tree)):=EP.push _ _ _;have g1:(h.push (.cells none 2 c.tree)).get h.size=some (.cells none 2 c.tree):=AE.Bh _ _;have s1:=Mk.Step.of i0 k1;refine AP (W.mono (TJ (ok.at U) s1.inv ha) ?_);rintro E ⟨s4,has4⟩;have s04:=s1.trans s4;have g4t:=s4.fix.get _ _ g1 (Et _ _);obtain⟨X,q,eX,eix,eq,hq⟩:=s4.inv.place has4 hi;obtain⟨r,f1,f2,_,_⟩:=s4.inv.look ha;have f1:Lz E (c.m,0+0)=some ⟨some (c.R,0),c.ns.length⟩:=f1;have f2:Jp (⟨some (c.R,0),c.ns.length⟩:Sl) 1 (a:Int)=some (c.R,a):=f2;have eX:Lz E (c.R,a)=some ⟨some (X,0),c.s.length+1⟩:=eX;have eix:Jp (⟨some (X,0),c.s.length+1⟩:Sl) 1 (i:Int)=some (X,i):=eix;simp only[qQ,f1,f2,eX,eix,eq];refine Ap (λhsome=>?_) (λhnone=>?_)
 ·rcases hq with rfl|hq
  ·cases hsome
  ·exact AG ⟨hq,s04⟩
 ·obtain⟨nd,end_⟩:∃nd,c.ns[a]=nd:=⟨_,rfl⟩;have G:c.ns[a]?=some nd:=by rw[List.getElem?_eq_getElem ha,end_]
  have l4:Lz E (h.size,0)=some c.sl:=Ja g4t (by simp) rfl;obtain⟨b,eb,_,lb⟩:=(s4.inv.own.view (P:=cfg.P) (S:=(·<E.size)) λid hid=>s4.inv.own.lt hid).Yh (i:=a) (by have:=s4.inv.own.1;rw[Jh NW]at this;show a<c.sl.n;have:c.ns.length*7=c.sl.n*7:=this;omega);have lb:Eb E (b.1,b.2) 7=some (JB nd):=by rw[lb];congr 1;exact Rt NW G
  have eb:Jp c.sl 7 (a:Int)=some b:=eb;have z04:=s04.fix.size;obtain⟨H,e6,g6,k6,z6⟩:=TU (h:=E) (g:=c.g) (z:=[.int .i64 (0:Int),.int .i64 (0:Int),.int .i64 (0:Int),.int .i64 (0:Int),.int .i64 (0:Int),.int .i64 (0:Int),.str ([]:List UInt8)]) (cs:=JB nd) (n:=7) (JZ (by omega)) rfl rfl rfl;simp only[l4,eb,lb,e6,JJ ok,xh,Nl (show c.s.length+1<=1099511627776 by omega),qQ];have s46:=Mk.Step.of s4.inv k6;have s06:=s04.trans s46;have l7:=Mk.Loc.begin (ok.at U) s06;obtain⟨T,e7⟩:∃T,T=H.push (.cells (some tB) 2 (GJ (List.replicate (c.s.length+1) false))):=⟨_,rfl⟩;have l7:(c.at U).Loc H.size h T (List.replicate (c.s.length+1) false):=by rw[e7];exact l7
  have k67:EP none H T:=by rw[e7];exact EP.push _ _ _
  rw[<-e7];have g7n:T.get E.size=some (.cells none 2 (JB nd)):=k67.Ep g6 (by simp);have g7t:T.get h.size=some (.cells none 2 c.tree):=k67.Ep (k6.Ep g4t (by simp)) (by simp);have has7:c.Has T a:=by
   have:=(Mk.Step.of s46.inv k67).has a (s46.has a has4);exact this
  refine AP (W.mono (Q:=λN=>∃os,(c.at U).Loc H.size h N os/\c.Has N a/\∀j,j<=c.s.length->(os[j]?=some true↔Mt c.ns c.s a 0 i j)) ?_ ?_)
  ·obtain⟨m1,m2,m3,m4,m5,m6,m7,m8,m9,m10,m11⟩:=ok.may a nd G;have l0:Ot T (E.size,0) .i64=some nd.k:=Kb g7n (by simp) rfl;have l1:Ot T (E.size,1) .i64=some nd.a:=Kb g7n (by simp) rfl;have l2:Ot T (E.size,2) .i64=some nd.b:=Kb g7n (by simp) rfl;have l6:Xd T (E.size,6)=some (I1 nd):=WW g7n (by simp) rfl;have lT:Eb T (h.size,0) 2=some c.tree:=by rw[LO g7t (by simp) (xb 2)];rfl
   have lN:Eb T (E.size,0) 7=some (JB nd):=by rw[LO g7n (by simp) (xb 7)];rfl
   rw[l0];simp only[qQ];have hU7:∀y,(U y\/y=H.size)->y<T.size:=by
    intro y hy;have hz:=l7.fix.size;have hz2:=T.BZ l7.bo.get;rcases hy with hy|hy
    ·have:=hU y hy;omega
    ·omega
   have hasU:∀{N},(∀b,c.Has T b->c.Has N b)->c.Has N a:=λk=>k a has7;have child:∀{N:AE} {os:List Bool},(c.at U).Loc H.size h N os->∀x:Nat,x<a->∀p,p<=c.s.length->W ((NX (n'+2)).BY c.g N (some (c.m,0)) c.tree (x:Int) c.s (p:Int)) λr=>∃Q qs,r.1=⟨some (Q,0),c.s.length+1⟩/\qs.length=c.s.length+1/\Bo r.2 Q qs/\(∀j,j<=c.s.length->(qs[j]?=some true↔Mt c.ns c.s x 0 p j))/\(c.at U).Loc H.size h r.2 os/\Fix N r.2/\(∀b,c.Has N b->c.Has r.2 b)/\Q≠H.size:=by
    intro N os l x hxa p hp;refine W.mono (IH x hxa (by omega) (n'+2) (by omega) p hp (λy=>U y\/y=H.size) N ?_ l.inv) ?_
    ·intro y hy;have hz:=l.fix.size;have hz2:=N.BZ l.bo.get;rcases hy with hy|hy
     ·have:=hU y hy;omega
     ·omega
    ·rintro r ⟨⟨Q,qs,e,lq,bq,nU,hq⟩,st⟩;exact⟨Q,qs,e,lq,bq,hq,l.call st,st.fix,st.has,λh=>nU (.inr h)⟩
   have hkk:nd.k=0\/nd.k=1\/nd.k=2\/nd.k=3\/nd.k=4\/nd.k=5\/nd.k=6\/nd.k=7:=by omega
   rcases hkk with F|F|F|F|F|F|F|F
   ·rw[F];simp only[show((0:Int)==0)=true from rfl,BL];rw[KH (by omega) H.size];simp only[qQ];obtain⟨h8,es,hs8,l8,b8⟩:=l7.one (ok.at U) (p:=i) hi true;have es:st c.g T (H.size,i) [.bool true]=some h8:=es;rw[es];simp only[qQ];refine AG ⟨_,l8,hasU hs8,λj D=>?_⟩
    ·rw[Ws G F];exact(b8 j).trans ⟨λh=>h.1,λh=>⟨h,rfl⟩⟩
   ·rw[F];simp only[show((1:Int)==0)=false from rfl,show((1:Int)==1)=true from rfl,BL,Ak];have none_:(∀j,¬Mt c.ns c.s a 0 i j)->∃os,(c.at U).Loc H.size h T os/\c.Has T a/\∀j,j<=c.s.length->(os[j]?=some true↔Mt c.ns c.s a 0 i j):=λhno=>⟨_,l7,has7,λj D=>Iff.intro (λh1=>by have:=xc (q9 h1);cases this) (λm=>(hno j m).elim)⟩;by_cases hil:i<c.s.length
    ·obtain⟨b,eb⟩:∃b,c.s[i]?=some b:=⟨_,List.getElem?_eq_getElem hil⟩;rw[decide_eq_true (show(i:Int)<(c.s.length:Int) by omega)];simp only[BL];rw[O1 eb];simp only[qQ,l6];rw[XQ T nd (ok.set a nd G) b.toNat_lt];simp only[qQ];refine Ap (λJ=>?_) (λJ=>AG (none_ λj m=>?_))
     ·rw[F3 (by omega),KH (by omega) H.size];simp only[qQ];obtain⟨h8,es,hs8,l8,b8⟩:=l7.one (ok.at U) (p:=i+1) (show i+1<=c.s.length by omega) true;have es:st c.g T (H.size,i+1) [.bool true]=some h8:=es;rw[es];simp only[qQ];refine AG ⟨_,l8,hasU hs8,λj D=>?_⟩;rw[inv1 G F];exact(b8 j).trans ⟨λh=>⟨h.1,b,eb,J⟩,λh=>⟨h.1,rfl⟩⟩
     ·obtain⟨_,b',eb',hb'⟩:=(inv1 G F).1 m;rw[eb]at eb';cases eb';rw[J]at hb';cases hb'
    ·rw[decide_eq_false (show ¬(i:Int)<(c.s.length:Int) by omega)];simp only[Ak,qQ];refine AG (none_ λj m=>?_);obtain⟨_,b',eb',_⟩:=(inv1 G F).1 m;have:=(List.getElem?_eq_some_iff.1 eb').1;omega
   ·rw [F];simp only[show((2:Int)==0)=false from rfl,show((2:Int)==1)=false from rfl,show((2:Int)==2)=true from rfl,BL,Ak];rw[lT];simp only[qQ];rw[l1];simp only[qQ];have hA:=m3 (by omega);have hB:=m5 (by omega);obtain⟨x,hxa⟩:∃x:Nat,nd.a=x:=⟨nd.a.toNat,by omega⟩;obtain⟨y,hyb⟩:∃y:Nat,nd.b=y:=⟨nd.b.toNat,by omega⟩;rw[hxa];refine AP (W.mono (child l7 x (by omega) i hi) ?_);rintro⟨_,h10⟩ ⟨Q,qs,rfl,lq,bq,hq,l10,f10,hs10,hQO⟩;dsimp only at bq l10 f10 hs10⊢;have zt:=E.BZ g4t;have zO:=l10.new;have g10t:=f10.get _ _ g7t (Et _ _);have g10n:=f10.get _ _ g7n (Et _ _)
    refine AP (W.mono (W.loop (λst=>∃(k:Nat) (os:List Bool),st.1=k/\i<=k/\k<=c.s.length+1/\(c.at U).Loc H.size h st.2 os/\Bo st.2 Q qs/\st.2.get h.size=some (.cells none 2 c.tree)/\st.2.get E.size=some (.cells none 2 (JB nd))/\c.Has st.2 a/\∀j,j<=c.s.length->(os[j]?=some true↔∃q,i<=q/\q<k/\qs[q]?=some true/\Mt c.ns c.s y 0 q j)) (λst=>c.s.length+1 - st.1.toNat)
     ⟨i,_,rfl,xb _,by omega,l10,bq,g10t,g10n,hs10 a has7,λj D=>Iff.intro (λh1=>by have:=xc (q9 h1);cases this) (λh=>by obtain⟨q,h1,B,_⟩:=h;omega)⟩ ?_ (Q:=λN=>∃os,(c.at U).Loc H.size h N os/\c.Has N a/\∀j,j<=c.s.length->(os[j]?=some true↔∃q,i<=q/\q<c.s.length+1/\qs[q]?=some true/\Mt c.ns c.s y 0 q j))) ?_)
    ·rintro⟨_,h11⟩ ⟨k,os,rfl,hik,hk1,l,bq1,gt1,gn1,hs1,bits⟩;dsimp only at l bq1 gt1 gn1 hs1;unfold FC;dsimp only;simp only[JJ ok,xh];refine Bi (λhle=>?_) (λhgt=>?_)
     ·have hle:k<=c.s.length:=by omega
      have fk:qs[k]?=some (qs.getD k false):=by rw[qY,List.getElem?_eq_getElem (by omega)];rfl
      rw[KH (by omega) Q];simp only[qQ,bq1.ld fk];cases J:qs.getD k false
      ·rw[J]at fk;simp only[Ak,qQ];rw[F3 (by omega)];refine AG ⟨⟨k+1,os,rfl,by omega,by omega,l,bq1,gt1,gn1,hs1,λj D=>?_⟩,by dsimp only;omega⟩;rw[bits j D];constructor
       ·rintro⟨q,h1,B,C⟩;exact⟨q,h1,by omega,C⟩
       ·rintro⟨q,h1,B,C,K⟩;refine⟨q,h1,?_,C,K⟩;by_cases hqk:q=k
        ·subst hqk;rw[fk]at C;cases C
        ·omega
      ·rw[J]at fk;simp only[BL];have lT2:Eb h11 (h.size,0) 2=some c.tree:=by rw[LO gt1 (by simp) (xb 2)];rfl
       have lb2:Ot h11 (E.size,2) .i64=some nd.b:=Kb gn1 (by simp) rfl;rw[lT2];simp only[qQ];rw[lb2];simp only[qQ];rw[hyb];refine AP (AP (W.mono (child l y (by omega) k hle) ?_));rintro⟨_,h12⟩ ⟨P,ps,rfl,lp,bp,hp,l12,f12,hs12,hPO⟩;dsimp only at bp l12 f12 hs12⊢;refine AP (W.mono (l12.add (ok.at U) bp lp) ?_);rintro⟨_,h13⟩ ⟨es,l13,o13,hs13,he⟩;dsimp only at l13 o13 hs13 he⊢;refine AG ?_;rw[F3 (by omega)];refine AG ⟨⟨k+1,es,rfl,by omega,by omega,l13,⟨o13.Ep (f12.bo bq1).get (by intro he;exact hQO (qV he))⟩,o13.Ep (f12.get _ _ gt1 (Et _ _)) (by intro he;have:=qV he;omega),o13.Ep (f12.get _ _ gn1 (Et _ _)) (by intro he;have:=qV he;omega),hs13 a (hs12 a hs1),λj D=>?_⟩,by dsimp only;omega⟩;refine(he j D).trans ?_;rw[bits j D,hp j D];constructor
       ·rintro(⟨q,h1,B,C⟩|C)
        ·exact⟨q,h1,by omega,C⟩
        ·exact⟨k,hik,by omega,fk,C⟩
       ·rintro⟨q,h1,B,C,K⟩;by_cases hqk:q=k
        ·subst hqk;exact .inr K
        ·exact .inl ⟨q,h1,by omega,C,K⟩
     ·have:k=c.s.length+1:=by omega
      subst this;exact AG ⟨os,l,hs1,bits⟩
    ·rintro N ⟨os,l,hs,J⟩;refine AG ⟨os,l,hs,λj D=>?_⟩;rw[inv2 G F hxa hyb,J j D];constructor
     ·rintro⟨q,h1,B,C,K⟩;exact⟨q,(hq q (by omega)).1 C,K⟩
     ·rintro⟨q,h1,B⟩;have e1:=h1.le;have e2:=B.le;exact⟨q,e1,by omega,(hq q (by omega)).2 h1,B⟩
   ·rw[F];simp only[show((3:Int)==0)=false from rfl,show((3:Int)==1)=false from rfl,show((3:Int)==2)=false from rfl,show((3:Int)==3)=true from rfl,BL,Ak];rw[lT];simp only[qQ];rw[l1];simp only[qQ];have hA:=m3 (by omega);have hB:=m5 (by omega);obtain⟨x,hxa⟩:∃x:Nat,nd.a=x:=⟨nd.a.toNat,by omega⟩;obtain⟨y,hyb⟩:∃y:Nat,nd.b=y:=⟨nd.b.toNat,by omega⟩;rw[hxa];refine AP (W.mono (child l7 x (by omega) i hi) ?_);rintro⟨_,h16⟩ ⟨Q,qs,rfl,lq,bq,hq,l16,f16,hs16,_⟩;dsimp only at bq l16 f16 hs16⊢;refine AP (W.mono (l16.add (ok.at U) bq lq) ?_);rintro⟨_,h17⟩ ⟨es,l17,o17,hs17,he⟩;dsimp only at l17 o17 hs17 he⊢;have zt:=E.BZ g4t;have g17t:h17.get h.size=some (.cells none 2 c.tree):=o17.Ep (f16.get _ _ g7t (Et _ _)) (by intro he;have:=qV he;omega);have g17n:h17.get E.size=some (.cells none 2 (JB nd)):=o17.Ep (f16.get _ _ g7n (Et _ _)) (by intro he;have:=qV he;omega);have lT2:Eb h17 (h.size,0) 2=some c.tree:=by rw[LO g17t (by simp) (xb 2)];rfl
    have lb2:Ot h17 (E.size,2) .i64=some nd.b:=Kb g17n (by simp) rfl;rw[lT2];simp only[qQ];rw[lb2];simp only[qQ];rw[hyb];refine AP (W.mono (child l17 y (by omega) i hi) ?_);rintro⟨_,h18⟩ ⟨P,ps,rfl,lp,bp,hp,l18,f18,hs18,_⟩;dsimp only at bp l18 f18 hs18⊢;refine AP (W.mono (l18.add (ok.at U) bp lp) ?_);rintro⟨_,h19⟩ ⟨fs,l19,o19,hs19,hf⟩;dsimp only at l19 o19 hs19 hf⊢;refine AG ⟨fs,l19,hs19 a (hs18 a (hs17 a (hs16 a has7))),λj D=>?_⟩;rw[Vi G F hxa hyb,<-hq j D,<-hp j D];have e1:=he j D;have e2:=hf j D;have e3:¬(List.replicate (c.s.length+1) false)[j]?=some true:=λh=>by have:=xc (q9 h);cases this
    rw[e2,e1];constructor
    ·rintro((h|h)|h)
     ·exact(e3 h).elim
     ·exact .inl h
     ·exact .inr h
    ·rintro(h|h)
     ·exact .inl (.inr h)
     ·exact .inr h
   ·rw[F];simp only[show((4:Int)==0)=false from rfl,show((4:Int)==1)=false from rfl,show((4:Int)==2)=false from rfl,show((4:Int)==3)=false from rfl,show((4:Int)==4)=true from rfl,BL,Ak];rw[lT];simp only[qQ];rw[lN];simp only[qQ];have hA:=m3 (by omega);obtain⟨x,hxa⟩:∃x:Nat,nd.a=x:=⟨nd.a.toNat,by omega⟩;refine AP (W.mono (RH ok (n:=n') (x:=x) (λp hp=>IH x (by omega) (by omega) n' (by omega) p hp) hU7 l7.inv G F hxa hi) ?_);rintro⟨_,h20⟩ ⟨Q,qs,rfl,lQ,hq⟩;dsimp only at lQ⊢;have lO:=l7.call lQ.step;refine AP (W.mono (lO.add (ok.at U) lQ.bo lQ.ln) ?_);rintro⟨_,h21⟩ ⟨es,l21,_,hs21,he⟩;dsimp only at l21 hs21 he⊢;refine AG ⟨es,l21,hs21 a (lQ.has a has7),λj D=>?_⟩;rw[<-hq j D];refine(he j D).trans ⟨λh=>?_,.inr⟩;rcases h with h|h
    ·have:=xc (q9 h);cases this
    ·exact h
   ·rw[F];simp only[show((5:Int)==0)=false from rfl,show((5:Int)==1)=false from rfl,show((5:Int)==2)=false from rfl,show((5:Int)==3)=false from rfl,show((5:Int)==4)=false from rfl,show((5:Int)==5)=true from rfl,BL,Ak];rw[lT];simp only[qQ];rw[l1];simp only[qQ];have hA:=m3 (by omega);obtain⟨x,hxa⟩:∃x:Nat,nd.a=x:=⟨nd.a.toNat,by omega⟩;rw[hxa];refine AP (W.mono (child l7 x (by omega) i hi) ?_);rintro⟨_,h22⟩ ⟨Q,qs,rfl,lq,bq,hq,l22,_,hs22,_⟩;dsimp only at bq l22 hs22⊢;refine AP (W.mono (l22.add (ok.at U) bq lq) ?_);rintro⟨_,h23⟩ ⟨es,l23,_,hs23,he⟩;dsimp only at l23 hs23 he⊢;refine AG ⟨es,l23,hs23 a (hs22 a has7),λj D=>?_⟩;rw[U2 G F hxa,<-hq j D];refine(he j D).trans ⟨λh=>?_,.inr⟩;rcases h with h|h
    ·have:=xc (q9 h);cases this
    ·exact h
   ·rw[F];simp only[show((6:Int)==0)=false from rfl,show((6:Int)==1)=false from rfl,show((6:Int)==2)=false from rfl,show((6:Int)==3)=false from rfl,show((6:Int)==4)=false from rfl,show((6:Int)==5)=false from rfl,show((6:Int)==6)=true from rfl,BL,Ak];rw[KH (by omega) H.size];simp only[qQ];obtain⟨h8,es,hs8,l8,b8⟩:=l7.one (ok.at U) (p:=i) hi ((i:Int)==(0:Int));have es:st c.g T (H.size,i) [.bool ((i:Int)==(0:Int))]=some h8:=es;rw[es];simp only[qQ];refine AG ⟨_,l8,hasU hs8,λj D=>?_⟩;rw[WD G F];refine(b8 j).trans ?_;simp only[beq_iff_eq];omega
   ·rw[F];simp only[show((7:Int)==0)=false from rfl,show((7:Int)==1)=false from rfl,show((7:Int)==2)=false from rfl,show((7:Int)==3)=false from rfl,show((7:Int)==4)=false from rfl,show((7:Int)==5)=false from rfl,show((7:Int)==6)=false from rfl,show((7:Int)==7)=true from rfl,BL,Ak];rw[KH (by omega) H.size];simp only[qQ];obtain⟨h8,es,hs8,l8,b8⟩:=l7.one (ok.at U) (p:=i) hi ((i:Int)==(c.s.length:Int));have es:st c.g T (H.size,i) [.bool ((i:Int)==(c.s.length:Int))]=some h8:=es;rw[es];simp only[qQ];refine AG ⟨_,l8,hasU hs8,λj D=>?_⟩;rw[Wo G F];refine(b8 j).trans ?_;simp only[beq_iff_eq];omega
  ·rintro N ⟨os,l,hs,J⟩;obtain⟨X',h',p1,p2,p3,p4,p5⟩:=l.put (ok.at U) hU hs hi J;obtain⟨r',q1,q2,_,_⟩:=l.inv.Qk.look ha;have q1:Lz N (c.m,0+0)=some ⟨some (c.R,0),c.ns.length⟩:=q1;have q2:Jp (⟨some (c.R,0),c.ns.length⟩:Sl) 1 (a:Int)=some (c.R,a):=q2;have p1:Lz N (c.R,a)=some ⟨some (X',0),c.s.length+1⟩:=p1;have p2:Jp (⟨some (X',0),c.s.length+1⟩:Sl) 1 (i:Int)=some (X',i):=p2;have p3:st c.g N (X',i) [.slice (some (H.size,0)) (c.s.length+1)]=some h':=p3;simp only[qQ,q1,q2,p1,p2,p3];exact AG ⟨p4,p5⟩
end
section
theorem VZ{g:Gd}{h:AE}{O Y L:Nat}{bs zs:List Bool}(bo:Bo h O zs)(bY:Bo h Y bs)(hm:g.may O=true)(lz:zs.length=L)(lb:bs.length=L)(hL:0<L):
  ∃h',Vz 1 g h ⟨some (O,0),L⟩ L (.slice (some (Y,0)) L)=some ((L:Int),h')/\Bo h' O bs:=by
 have e1:Ch h 1 (min L L) (.slice (some (Y,0)) L)=some (GJ bs):=by
  unfold Abs.Ch;simp only[Nat.min_self];rw[xd (by omega),bY.get,M1 (by simp) (by simp;omega),wf,xO (by simp;omega)]
 have e2:By g h O 0 (GJ bs)=some (h.set O (.cells (some tB) 2 (Cu (GJ zs) 0 (GJ bs)))):=SU (g:=g) bo.get (o:=0) hm (by simp;omega) (TR bs);refine⟨h.set O (.cells (some tB) 2 (GJ bs)),?_,⟨by rw[AE.Cf _ _ (h.BZ bo.get)]⟩⟩;unfold Vz;simp only;rw[e1];simp only[Nat.min_self];rw[xd (by omega),e2,O9 (by simp;omega)];rfl
theorem QT{s:List UInt8}{f:Nat}{h:AE}{sl:Sl}{ns:List Nd}{root:Int}(o:Pk h 7 sl (ns.flatMap JB))(hf:f<=h.size)(hs:s.length<=1000)(hc:ns.length<=1024)(may:∀(i:Nat) n,ns[i]?=some n->Ri n i)(oks:∀n∈ns,XF n){a i:Nat}(ha:a<ns.length)(hi:i<=s.length):
  W (F8 ⟨f,[]⟩ h [sl.v,.int .i64 root] (a:Int) s (i:Int)) λr=>∃O bs,r.1=⟨some (O,0),s.length+1⟩/\bs.length=s.length+1/\Bo r.2 O bs/\∀j,j<=s.length->(bs[j]?=some true↔Mt ns s a 0 i j):=by
 have nl:sl.n=ns.length:=by have:=o.1;rw[Jh NW]at this;omega
 unfold F8;refine ES rfl ?_;simp only[qQ];obtain⟨h1,e1⟩:∃h1,h1=h.push (.cells none 2 [sl.v,.int .i64 root]):=⟨_,rfl⟩;rw[<-e1];have z1:h1.size=h.size+1:=by rw[e1];rfl
 have k1:EP none h h1:=by rw[e1];exact EP.push _ _ _
 have g1:h1.get h.size=some (.cells none 2 [sl.v,.int .i64 root]):=by rw[e1,AE.Bh]
 have l1:Lz h1 (h.size,0)=some sl:=Ja g1 (by simp) rfl;rw[l1];simp only[qQ,nl,xh];rw[Se (by omega)];simp only[qQ];obtain⟨B,e2⟩:∃B,B=h1.push (.cells (some tM) 2 (List.replicate ns.length (.slice none 0))):=⟨_,rfl⟩;rw[<-e2];have z2:B.size=h1.size+1:=by rw[e2];rfl
 have k2:EP none h1 B:=by rw[e2];exact EP.push _ _ _
 have g2:B.get h1.size=some (.cells (some tM) 2 (List.replicate ns.length (.slice none 0))):=by rw[e2,AE.Bh]
 obtain⟨E,e4,g4,k4,z4⟩:=TU (h:=B) (g:=⟨f,[]⟩) (z:=[.slice none 0]) (cs:=[.slice (some (h1.size,0)) ns.length]) (n:=1) (JZ (by omega)) rfl rfl rfl;rw[e4];simp only[qQ];have wl:i64.wrap ((s.length:Int)+1)=((s.length+1:Nat):Int):=F3 (by omega);simp only[wl,xh];rw[Nl (by omega)];simp only[qQ];obtain⟨K,e5⟩:∃K,K=E.push (.cells (some tB) 2 (GJ (List.replicate (s.length+1) false))):=⟨_,rfl⟩;rw[<-e5];have z5:K.size=E.size+1:=by rw[e5];rfl
 have k5:EP none E K:=by rw[e5];exact EP.push _ _ _
 have b5:Bo K E.size (List.replicate (s.length+1) false):=⟨by rw[e5,AE.Bh]⟩;have k15:=(k2.trans k4).trans k5;have g5:=k15.Ep g1 (by simp);have l5:Eb K (h.size,0) 2=some [sl.v,.int .i64 root]:=by rw[LO g5 (by simp) (xb 2)];rfl
 rw[l5];simp only[qQ]
 let c:Mk:=⟨f,B.size,h1.size,sl,root,ns,s,λ_=>False⟩
 have ok:c.Ok:=⟨by show f<=h1.size;omega,hs,hc,may,λi n hn=>oks n (q9 hn)⟩;have k05:=k1.trans k15;have inv:(c.at λy=>y=E.size).I K:=by
  refine⟨k5.Ep g4 (by simp),o.Ep λj D=>k05.get j (o.lt D) (by simp),List.replicate ns.length ⟨none,0⟩,by simp;rfl,?_,λb r hr=>.inl (xc (q9 hr)),λb d X n p J _=>?_⟩
  ·have:=(k4.trans k5).Ep g2 (by simp);rw[List.map_replicate];exact this
  ·have:=xc (q9 J);cases this
 obtain⟨bg,hbg⟩:∃b,Gp=b+10000:=⟨Gp - 10000,by rw[N1]⟩;refine AP (W.mono (S9 ok a ha Gp (by have:a<ns.length:=ha;omega) i hi (λy=>y=E.size) K (λy hy=>by omega) inv) ?_);rintro⟨x5,H⟩ ⟨⟨Y,bs,rfl,lb,bY,_,J⟩,st6⟩;have b6:=st6.fix.bo b5;have lb:bs.length=s.length+1:=lb;obtain⟨T,ec,b7⟩:=VZ (g:=⟨f,[]⟩) b6 bY (JZ (by omega)) (show(List.replicate (s.length+1) false).length=s.length+1 by simp) lb (by omega);have ec:Vz 1 ⟨f,[]⟩ H ⟨some (E.size,0),s.length+1⟩ (s.length+1) (.slice (some (Y,0)) (s.length+1))=some (((s.length+1:Nat):Int),T):=ec;show W ((Vz 1 ⟨f,[]⟩ H ⟨some (E.size,0),s.length+1⟩ (s.length+1) (.slice (some (Y,0)) (s.length+1))).bind _) _;rw[ec];exact AG ⟨E.size,bs,rfl,lb,b7,J⟩
end
end Go.Abs.L
