/-
 A part.
-/
import Derived.Test.YtfgmnhjedmkpeaaLref18
set_option linter.unusedSimpArgs false
namespace Go.Abs.L
open IntKind (i64)
open Go.Abs
set_option linter.unusedVariables false
set_option linter.unusedSimpArgs false
structure Nd where
 k:Int
 a:Int
 b:Int
 mi:Int
 ma:Int
 gr:Int
 S:List UInt8
def YF(n:Nd):Prop:=n.S.length<=256
def hasB(n:Nd)(b:Nat):Bool:=n.S.any λx=>x.toNat==b
def HQ(n:Nd):List UInt8:=n.S
def HV(n:Nd):List AA:=[.int .i64 n.k,.int .i64 n.a,.int .i64 n.b,.int .i64 n.mi,.int .i64 n.ma,.int .i64 n.gr,.str (HQ n)]
theorem LP(n:Nd):(HV n).length=7:=rfl
def Uy(n:Nd)(c:Int):Prop:=
 0<=n.k/\n.k<=7/\(2<=n.k/\n.k<=5->0<=n.a/\n.a<c)/\(¬(2<=n.k/\n.k<=5)->n.a=0)/\(n.k=2\/n.k=3->0<=n.b/\n.b<c)/\(¬(n.k=2\/n.k=3)->n.b=0)/\
 True/\(n.k=4->0<=n.mi/\n.mi<=255/\-1<=n.ma/\n.ma<=255/\(n.ma>=0->n.mi<=n.ma))/\(n.k≠4->n.mi=0/\n.ma=0)/\(n.k=5->1<=n.gr/\n.gr<=1024)/\(n.k≠5->n.gr=0)
def Nj(h:AB)(sz:Nat)(s:Sl)(cs:List AA):Prop:=
 cs.length=s.n*sz/\((s.r=none/\s.n=0)\/∃id rest,s.r=some (id,0)/\h.get id=some (.cells none 1 (cs++rest)))
theorem Nj.view{P:Program}{S:Nat->Prop}{h:AB}{sz:Nat}{s:Sl}{cs:List AA}(w:Nj h sz s cs)(hS:∀id,s.id?=some id->S id):View P S h sz s cs:=by
 refine⟨w.1,?_⟩;rcases w.2 with M|⟨id,rest,h1,B⟩
 ·exact .inl M
 ·exact .inr ⟨id,0,none,1,cs++rest,h1,hS id (by simp[Sl.id?,h1]),B,λe' he=>(by cases he),.inr ⟨by simp,by simp,by simp⟩⟩
theorem Nj.De{h h':AB}{sz:Nat}{s:Sl}{cs:List AA}(w:Nj h sz s cs)(k:∀id,s.id?=some id->h'.get id=h.get id):Nj h' sz s cs:=by
 refine⟨w.1,?_⟩;rcases w.2 with M|⟨id,rest,h1,B⟩
 ·exact .inl M
 ·exact .inr ⟨id,rest,h1,by rw[k id (by simp[Sl.id?,h1])];exact B⟩
theorem Nj.lt{h:AB}{sz:Nat}{s:Sl}{cs:List AA}(w:Nj h sz s cs){id:Nat}(hi:s.id?=some id):id<h.size:=by
 rcases w.2 with⟨M,_⟩|⟨id',rest,h1,B⟩
 ·simp[Sl.id?,M]at hi
 ·simp[Sl.id?,h1]at hi;rw[<-hi];exact h.Ar B
def NS(n:Nd)(t:Int):Int:=if n.ma<0 then(if t+1<=n.mi then t+1 else n.mi)else t+1
inductive Mt(ns:List Nd)(s:List UInt8):Nat->Int->Nat->Nat->Prop where
 |empty {a:Nat} {n:Nd} {t:Int} {i:Nat}:ns[a]?=some n->n.k=0->Mt ns s a t i i
 |one {a:Nat} {n:Nd} {t:Int} {i:Nat} {b:UInt8}:ns[a]?=some n->n.k=1->s[i]?=some b->hasB n b.toNat=true->Mt ns s a t i (i+1)
 |front {a:Nat} {n:Nd} {t:Int}:ns[a]?=some n->n.k=6->Mt ns s a t 0 0
 |back {a:Nat} {n:Nd} {t:Int}:ns[a]?=some n->n.k=7->Mt ns s a t s.length s.length
 |UN {a x:Nat} {n:Nd} {t:Int} {i j:Nat}:ns[a]?=some n->n.k=3->n.a=x->Mt ns s x 0 i j->Mt ns s a t i j
 |UK {a x:Nat} {n:Nd} {t:Int} {i j:Nat}:ns[a]?=some n->n.k=3->n.b=x->Mt ns s x 0 i j->Mt ns s a t i j
 |group {a x:Nat} {n:Nd} {t:Int} {i j:Nat}:ns[a]?=some n->n.k=5->n.a=x->Mt ns s x 0 i j->Mt ns s a t i j
 |cat {a x y:Nat} {n:Nd} {t:Int} {i k j:Nat}:ns[a]?=some n->n.k=2->n.a=x->n.b=y->Mt ns s x 0 i k->Mt ns s y 0 k j->Mt ns s a t i j
 |Qb {a:Nat} {n:Nd} {t:Int} {i:Nat}:ns[a]?=some n->n.k=4->n.mi<=t->Mt ns s a t i i
 |Oq {a x:Nat} {n:Nd} {t:Int} {i k j:Nat}:ns[a]?=some n->n.k=4->n.a=x->t≠n.ma->(k=i->t<n.mi)->Mt ns s x 0 i k->Mt ns s a (NS n t) k j->Mt ns s a t i j
theorem Mt.le{ns:List Nd}{s:List UInt8}{a:Nat}{t:Int}{i j:Nat}(m:Mt ns s a t i j):i<=j:=by
 induction m<;>omega
section
inductive It(ns:List Nd)(s:List UInt8)(x:Nat):Nat->Nat->Nat->Prop where
 |z {i:Nat}:It ns s x 0 i i
 |s {r i k j:Nat}:Mt ns s x 0 i k->It ns s x r k j->It ns s x (r+1) i j
section
variable {ns:List Nd} {s:List UInt8} {x:Nat}
theorem It.le{r i j:Nat}(h:It ns s x r i j):i<=j:=by
 induction h with
 |z=>exact xe _
 |s m _ ih=>exact xq m.le ih
theorem It.app{r i j:Nat}(h:It ns s x r i j):∀{q k:Nat},It ns s x q j k->It ns s x (r+q) i k:=by
 induction h with
 |z=>intro q k B;rw[xV];exact B
 |s m _ ih=>intro q k B;rw[Nat.add_right_comm];exact .s m (ih B)
theorem It.cut{q:Nat}:∀{r i j:Nat},It ns s x (r+q) i j->∃k,It ns s x r i k/\It ns s x q k j
 |0,i,j,h=>⟨i,.z,by rw[xV]at h;exact h⟩
 | r+1,i,j,h=>by
  rw[Nat.add_right_comm]at h;cases h with
  |s m h=>
   obtain⟨k,h1,B⟩:=It.cut h;exact⟨k,.s m h1,B⟩
theorem It.snoc{r i j k:Nat}(h:It ns s x r i j)(m:Mt ns s x 0 j k):It ns s x (r+1) i k:=h.app (.s m .z)
theorem It.last{r i j:Nat}(h:It ns s x (r+1) i j):∃k,It ns s x r i k/\Mt ns s x 0 k j:=by
 obtain⟨k,h1,B⟩:=h.cut;cases B with
 |s m h=>cases h;exact⟨k,h1,m⟩
theorem It.short{r m j:Nat}(h:It ns s x r m j):∃r',r'<=r/\r'<=j - m/\It ns s x r' m j:=by
 induction h with
 |z=>exact⟨0,xe _,xu _,.z⟩
 |@s r i k j mt hi ih=>
  obtain⟨r',h1,B,C⟩:=ih;have l1:=mt.le;have l2:=hi.le;by_cases F:k=i
  ·subst F;exact⟨r',by omega,B,C⟩
  ·exact⟨r'+1,by omega,by omega,.s mt C⟩
theorem WS{a:Nat}{t:Int}{i j:Nat}(m:Mt ns s a t i j):∀{n:Nd},ns[a]?=some n->n.k=4->n.a=x->0<=n.mi->(0<=n.ma->t<=n.ma)->∃r:Nat,n.mi<=t+r/\(0<=n.ma->t+r<=n.ma)/\It ns s x r i j:=by
 induction m with
 |Qb h k hm=>
  intro n hn _ _ _ hv;rw[h]at hn;cases hn;exact⟨0,by simpa using hm,by simpa using hv,.z⟩
 | Oq h k G ht he m1 _ _ ih2=>
  intro n hn hk4 hnx hmi hv;rw[h]at hn;cases hn
  obtain⟨r,h1,B,C⟩:=ih2 h k hnx hmi (by
   intro M;have:=hv M;unfold NS;rw[xg (by omega)]
   omega)
  have e:x=_:=Int.ofNat.inj (hnx.symm.trans G);subst e;refine⟨r+1,?_,?_,.s m1 C⟩
  ·unfold NS at h1;split at h1
   ·split at h1<;>omega
   ·omega
  ·intro M;have:=B M;unfold NS at this;rw[xg (by omega)]at this;omega
 |empty h k=>intro n hn F;rw[h]at hn;cases hn;omega
 |one h k=>intro n hn F;rw[h]at hn;cases hn;omega
 |front h k=>intro n hn F;rw[h]at hn;cases hn;omega
 |back h k=>intro n hn F;rw[h]at hn;cases hn;omega
 |UN h k=>intro n hn F;rw[h]at hn;cases hn;omega
 |UK h k=>intro n hn F;rw[h]at hn;cases hn;omega
 |group h k=>intro n hn F;rw[h]at hn;cases hn;omega
 |cat h k=>intro n hn F;rw[h]at hn;cases hn;omega
theorem Qd{a:Nat}{n:Nd}(hn:ns[a]?=some n)(F:n.k=4)(G:n.a=x)(hmi:0<=n.mi){j:Nat}:∀{r:Nat} {t:Int} {i:Nat},0<=t->n.mi<=t+r->(0<=n.ma->t+r<=n.ma)->It ns s x r i j->Mt ns s a t i j
 |0,t,i,M,h1,B,h=>by cases h;exact .Qb hn F (by simpa using h1)
 | r +1,t,i,M,h1,B,h=>by
  cases h with
  | @s _ _ k _ m h=>
   by_cases he:k=i/\n.mi<=t
   ·obtain⟨rfl,he⟩:=he;exact Qd hn F G hmi M (by omega) (λh=>by have:=B h;omega) h
   ·refine .Oq hn F G (λe=>?_) (λe=>by omega) m (Qd hn F G hmi ?_ ?_ ?_ h)
    ·have:=B (by omega);omega
    ·unfold NS;split
     ·split<;>omega
     ·omega
    ·unfold NS;split
     ·split<;>omega
     ·omega
    ·intro E;unfold NS;rw[xg (by omega)];have:=B E;omega
theorem RD{a:Nat}{n:Nd}(hn:ns[a]?=some n)(F:n.k=4)(G:n.a=x)(hmi:0<=n.mi)(hma:0<=n.ma->n.mi<=n.ma){i j:Nat}:Mt ns s a 0 i j↔∃r:Nat,n.mi<=r/\(0<=n.ma->(r:Int)<=n.ma)/\It ns s x r i j:=by
 constructor
 ·intro m;obtain⟨r,h1,B,C⟩:=WS m hn F G hmi (λh=>h);exact⟨r,by omega,λh=>by have:=B h;omega,C⟩
 ·rintro⟨r,h1,B,C⟩;exact Qd hn F G hmi (Int.le_refl 0) (by omega) (λh=>by have:=B h;omega) C
def Dk(ns:List Nd)(s:List UInt8)(x lo i k j:Nat):Prop:=∃r,r<=k/\It ns s x (lo+r) i j
theorem Dk.zero{lo i j:Nat}:Dk ns s x lo i 0 j↔It ns s x lo i j:=by
 constructor
 ·rintro⟨r,h1,B⟩;have:r=0:=by omega
  subst this;exact B
 ·intro h;exact⟨0,xe _,h⟩
theorem Dk.succ{lo i k j:Nat}:Dk ns s x lo i (k+1) j↔Dk ns s x lo i k j\/∃m,Dk ns s x lo i k m/\Mt ns s x 0 m j:=by
 constructor
 ·rintro⟨r,h1,B⟩;by_cases hr:r<=k
  ·exact .inl ⟨r,hr,B⟩
  ·obtain⟨m,C,E⟩:=It.last (show It ns s x ((lo+k)+1) i j by rw[show lo+k+1=lo+r by omega];exact B);exact .inr ⟨m,⟨k,xe _,C⟩,E⟩
 ·rintro(⟨r,h1,B⟩|⟨m,⟨r,h1,B⟩,C⟩)
  ·exact⟨r,by omega,B⟩
  ·exact⟨r+1,by omega,B.snoc C⟩
theorem Dk.stop{lo i k:Nat}(h:∀j,Dk ns s x lo i (k+1) j->Dk ns s x lo i k j):∀q j,Dk ns s x lo i (k+q) j->Dk ns s x lo i k j
 |0,j,hd=>hd
 |q+1,j,hd=>by
  rcases Dk.succ.1 (show Dk ns s x lo i ((k+q)+1) j from hd)with h1|⟨m,h1,B⟩
  ·exact Dk.stop h q j h1
  ·exact h j (Dk.succ.2 (.inr ⟨m,Dk.stop h q m h1,B⟩))
theorem Dk.mono{lo i k q j:Nat}(F:k<=q)(h:Dk ns s x lo i k j):Dk ns s x lo i q j:=by obtain⟨r,h1,B⟩:=h;exact⟨r,by omega,B⟩
theorem Dk.cap{lo i q j L:Nat}(D:j<=L)(h:Dk ns s x lo i q j):Dk ns s x lo i (min q L) j:=by
 obtain⟨r,h1,B⟩:=h;obtain⟨m,C,E⟩:=B.cut;obtain⟨r',K,H,T⟩:=E.short;exact⟨r',by omega,C.app T⟩
theorem Wl{a:Nat}{n:Nd}(hn:ns[a]?=some n)(F:n.k=4)(G:n.a=x)(hmi:0<=n.mi)(hma:0<=n.ma->n.mi<=n.ma){i j L more:Nat}(D:j<=L)(hm:more=if n.ma<0 then L+1 else min (n.ma - n.mi).toNat (L+1)):
  Mt ns s a 0 i j↔Dk ns s x n.mi.toNat i more j:=by
 rw[RD hn F G hmi hma];constructor
 ·rintro⟨r,h1,B,C⟩;have hd:Dk ns s x n.mi.toNat i (r - n.mi.toNat) j:=⟨r - n.mi.toNat,xe _,by rw[show n.mi.toNat+(r - n.mi.toNat)=r by omega];exact C⟩;refine(hd.cap D).mono ?_;rw[hm];split
  ·omega
  ·have:=B (by omega);omega
 ·rintro⟨r,h1,B⟩;refine⟨n.mi.toNat+r,by omega,λM=>?_,B⟩;rw[hm,xg (by omega)]at h1;have:=hma M;omega
end
end
section
def E3(bs:List Bool):List AA:=bs.map AA.bool
@[simp] theorem XK (bs:List Bool):(E3 bs).length=bs.length:=by simp[E3]
theorem R7(bs:List Bool):(E3 bs).all AA.one=true:=by
 rw[xk];intro x G;obtain⟨b,_,rfl⟩:=wi.1 G;rfl
theorem Rk{bs:List Bool}{i:Nat}{b:Bool}(h:bs[i]?=some b):(E3 bs)[i]?=some (.bool b):=by simp[E3,h]
theorem Rf(bs:List Bool)(i:Nat)(b:Bool):(E3 bs).set i (.bool b)=E3 (bs.set i b):=by simp[E3,wD]
theorem LR{n:Nat}(h:n<=1099511627776):OC 1 [.bool false] (n:Int) (n:Int)=some (E3 (List.replicate n false)):=by
 unfold OC;rw[xj (by omega),xm,KU];simp[E3]
abbrev tB:TypeId:=4
abbrev tR:TypeId:=74
abbrev tM:TypeId:=127
structure Bo(h:AB)(Y:Nat)(bs:List Bool):Prop where
 get:h.get Y=some (.cells (some tB) 2 (E3 bs))
theorem Is{L i:Nat}(hi:i<L)(Y:Nat):H0 (⟨some (Y,0),L⟩:Sl) 1 (i:Int)=some (Y,i):=by
 have:H0 (⟨some (Y,0),L⟩:Sl) 1 (i:Int)=some (Y,0+i*1):=U3 hi;rw[this];congr 2;omega
theorem Bo.ld{h:AB}{Y:Nat}{bs:List Bool}(b:Bo h Y bs){i:Nat}{v:Bool}(hv:bs[i]?=some v):Ri h (Y,i)=some v:=W9 b.get (by simp) (Rk hv)
theorem Bo.st{g:Gd}{h:AB}{Y:Nat}{bs:List Bool}(b:Bo h Y bs)(hm:g.may Y=true){i:Nat}(hi:i<bs.length)(v:Bool):∃h',st g h (Y,i) [.bool v]=some h'/\Bo h' Y (bs.set i v)/\DV (some Y) h h'/\h'.size=h.size:=by
 have hz:=h.Ar b.get;refine⟨_,Qm b.get hm (by simp;omega) rfl,⟨?_⟩,DV.set b.get,rfl⟩;rw[AB.B0 _ _ hz,K5 (by simp;omega),Rf]
theorem Mh{g:Gd}{h:AB}{Y Z L:Nat}{ys zs:List Bool}(by_:Bo h Y ys)(bz:Bo h Z zs)(hm:g.may Y=true)(ly:ys.length=L)(lz:zs.length=L)(hL:L<=1000000):
  W (Be g h ⟨some (Y,0),L⟩ ⟨some (Z,0),L⟩) λr=>Bo r.2 Y ((List.range L).map λi=>ys.getD i false||zs.getD i false)/\DV (some Y) h r.2:=by
 unfold Be
 let V:Nat->List Bool:=λk=>(List.range L).map λi=>if i<k then ys.getD i false||zs.getD i false else ys.getD i false
 refine AP (W.mono (W.loop (λst=>∃k:Nat,st.1=k/\k<=L/\Bo st.2 Y (V k)/\DV (some Y) h st.2) (λst=>L - st.1.toNat) ⟨0,rfl,by omega,?_,DV.refl _ _⟩ ?_ (Q:=λN=>Bo N Y (V L)/\DV (some Y) h N)) ?_)
 ·have:V 0=ys:=by
   apply xU (by simp[V,ly]);intro i h1 B;simp[V,B]
  rw[this];exact by_
 ·rintro⟨_,N⟩ ⟨k,rfl,F,bv,o⟩;dsimp only at bv o;unfold Fh;dsimp only;refine Bq (λhlt=>?_) (λhge=>?_)
  ·have hlt:k<L:=by omega
   have vk:(V k)[k]?=some (ys.getD k false):=by simp[V,hlt]
   rw[Is hlt Y];simp only[qW,bv.ld vk];rw[Is hlt Z];have hz:∃z,Ri N (Z,k)=some z/\(ys.getD k false||z)=(ys.getD k false||zs.getD k false):=by
    by_cases he:Z=Y
    ·subst he;refine⟨_,bv.ld vk,?_⟩;have:=bz.get.symm.trans by_.get;have e:E3 zs=E3 ys:=by
      have:=qX this;injection this
     have e2:zs=ys:=by
      have C:=congrArg (List.map λv=>match v with|AA.bool b=>b|_=>false) e;simpa[E3,Function.comp_def]using C
     rw[e2]
    ·have hzz:zs[k]?=some (zs.getD k false):=by simp[lz,hlt]
     exact⟨_,(Bo.mk (o.De bz.get (by simpa using he))).ld hzz,rfl⟩
   obtain⟨z,ez,e2⟩:=hz;simp only[qW,ez];rw[show(A3 (ys.getD k false) (some true) (some z):Option Bool)=some (ys.getD k false||z) from Qy _ _];simp only[qW];rw[e2];obtain⟨B,es,b2,o2,z2⟩:=bv.st (g:=g) hm (i:=k) (by simp[V];exact hlt) (ys.getD k false||zs.getD k false);rw[es];simp only[qW];rw[G4 (by omega)];refine AH ⟨⟨k+1,rfl,by omega,?_,o.trans o2⟩,by dsimp only;omega⟩;dsimp only;have:(V k).set k (ys.getD k false||zs.getD k false)=V (k+1):=by
    apply xU (by simp[V]);intro i h1 B;rw[List.getElem_set];by_cases hi:k=i
    ·subst hi;simp[V]
    ·rw[xg hi];simp only[V,List.getElem_map,List.getElem_range];by_cases C:i<k
     ·rw[xj C,xj (by omega)]
     ·rw[xg C,xg (by omega)]
   rw[<-this];exact b2
  ·have:k=L:=by omega
   subst this;exact AH ⟨bv,o⟩
 ·rintro N ⟨b,o⟩;refine AH ⟨?_,o⟩;have:V L=(List.range L).map λi=>ys.getD i false||zs.getD i false:=by
   apply xN;intro i hi;rw[xj (xP.1 hi)]
  rw[<-this];exact b
end
section
theorem OE(n:Nd){b:Nat}(J:b<256):(∃x∈HQ n,x.toNat=b)↔hasB n b=true:=by
 unfold HQ hasB;simp[wm]
theorem Xo(h:AB)(n:Nd)(ok:YF n){b:Nat}(J:b<256):EV h (b:Int) (HQ n)=some (hasB n b):=by
 unfold EV;have hl:(HQ n).length<=256:=ok;refine W.eq (AP (W.mono (Q:=λo=>(o=.inl ()/\∀x∈HQ n,x.toNat≠b)\/(o=.inr true/\∃x∈HQ n,x.toNat=b)) (W.loop (λst=>∃i:Nat,st=i/\i<=(HQ n).length/\∀j x,j<i->(HQ n)[j]?=some x->x.toNat≠b) (λst=>(HQ n).length - st.toNat) ⟨0,rfl,by omega,λj x h=>by omega⟩ ?_) ?_))
 ·rintro _ ⟨i,rfl,hi,no⟩;unfold Fx;dsimp only;refine Bq (λhlt=>?_) (λhge=>?_)
  ·have hlt:i<(HQ n).length:=by omega
   obtain⟨x,ex⟩:∃x,(HQ n)[i]?=some x:=⟨_,List.getElem?_eq_getElem hlt⟩;rw[Mm ex];simp only[qW];rw[Gw];split
   ·rename_i he;exact AH (.inr ⟨rfl,x,xd ex,by omega⟩)
   ·rename_i he;rw[G4 (by omega)];refine AH ⟨⟨i+1,rfl,by omega,λj y D hy=>?_⟩,by omega⟩;by_cases B:j<i
    ·exact no j y B hy
    ·have:j=i:=by omega
     subst this;rw[ex]at hy;cases hy;omega
  ·refine AH (.inl ⟨rfl,λx G=>?_⟩);obtain⟨j,D,rfl⟩:=List.getElem_of_mem G;exact no j _ (by omega) (List.getElem?_eq_getElem D)
 ·rintro o (⟨rfl,B⟩|⟨rfl,B⟩)
  ·refine AH ?_;symm;rw[Bool.eq_false_iff];intro C;obtain⟨x,G,e⟩:=(OE n J).2 C;exact B x G e
  ·exact AH ((OE n J).1 B).symm
def QW:Ay->Prop
 | .cells (some e) _ _=>e=tR\/e=tM
 |_=>False
structure Fix(h h':AB):Prop where
 size:h.size<=h'.size
 get:∀id o,h.get id=some o->¬QW o->h'.get id=some o
theorem Fix.trans{a b c:AB}(h:Fix a b)(k:Fix b c):Fix a c:=⟨xq h.size k.size,λid o h1 B=>k.get id o (h.get id o h1 B) B⟩
theorem Fix.of{h h':AB}(k:DV none h h'):Fix h h':=⟨k.size,λid o h1 _=>k.De h1 (by simp)⟩
theorem Fix.new{h h1 B:AB}{Y:Nat}(k:Fix h h1)(o:DV (some Y) h1 B)(hy:h.size<=Y):Fix h B:=
 ⟨xq k.size o.size,λid x C E=>o.De (k.get id x C E) (by have:=h.Ar C;simp;omega)⟩
theorem Du(stt:Nat)(cs:List AA):¬QW (.cells none stt cs):=λh=>h
theorem Ro(stt:Nat)(cs:List AA):¬QW (.cells (some tB) stt cs):=λh=>by
 rcases h with h|h
 ·exact absurd h (by decide)
 ·exact absurd h (by decide)
theorem Fix.bo{h h':AB}(k:Fix h h'){Y:Nat}{bs:List Bool}(b:Bo h Y bs):Bo h' Y bs:=⟨k.get _ _ b.get (Ro _ _)⟩
structure Mk where
 fl:Nat
 m:Nat
 R:Nat
 sl:Sl
 root:Int
 ns:List Nd
 s:List UInt8
 U:Nat->Prop
abbrev Mk.g(c:Mk):Gd:=⟨c.fl,[]⟩
def Mk.GD(c:Mk)(h:AB)(a i:Nat)(q:Sl):Prop:=
 ∃Y bs,q=⟨some (Y,0),c.s.length+1⟩/\bs.length=c.s.length+1/\Bo h Y bs/\¬c.U Y/\∀j,j<=c.s.length->(bs[j]?=some true↔Mt c.ns c.s a 0 i j)
theorem Mk.GD.fix{c:Mk}{h h':AB}{a i:Nat}{q:Sl}(e:c.GD h a i q)(k:Fix h h'):c.GD h' a i q:=by
 obtain⟨Y,bs,h1,B,C,M,E⟩:=e;exact⟨Y,bs,h1,B,k.bo C,M,E⟩
def Mk.VV(c:Mk)(h:AB)(a:Nat)(r:Sl):Prop:=
 r=⟨none,0⟩\/∃(X:Nat) (qs:List Sl),r=⟨some (X,0),c.s.length+1⟩/\c.fl<=X/\h.get X=some (.cells (some tR) 2 (qs.map Sl.v))/\qs.length=c.s.length+1/\∀(i:Nat) (q:Sl),qs[i]?=some q->q=(⟨none,0⟩:Sl)\/c.GD h a i q
structure Mk.I(c:Mk)(h:AB):Prop where
 cell:h.get c.m=some (.cells none 2 [.slice (some (c.R,0)) c.ns.length])
 own:Nj h 7 c.sl (c.ns.flatMap HV)
 rows:∃rs:List Sl,rs.length=c.ns.length/\h.get c.R=some (.cells (some tM) 2 (rs.map Sl.v))/\(∀(a:Nat) (r:Sl),rs[a]?=some r->c.VV h a r)/\
  ∀(a b X n p:Nat),rs[a]?=some (⟨some (X,0),n⟩:Sl)->rs[b]?=some (⟨some (X,0),p⟩:Sl)->a=b
structure Mk.Ok(c:Mk):Prop where
 fl:c.fl<=c.R
 len:c.s.length<=1000
 cnt:c.ns.length<=1024
 may:∀(i:Nat) n,c.ns[i]?=some n->Uy n i
 set:∀(i:Nat) n,c.ns[i]?=some n->YF n
theorem Mk.I.De{c:Mk}{h h':AB}(i:c.I h)(k:DV none h h'):c.I h':=by
 obtain⟨rs,h1,B,C,E⟩:=i.rows;refine⟨k.De i.cell (by simp),i.own.De λid hi=>k.get id (i.own.lt hi) (by simp),rs,h1,k.De B (by simp),λa r hr=>?_,E⟩;rcases C a r hr with K|⟨X,qs,e1,e0,e2,e3,e4⟩
 ·exact .inl K
 ·refine .inr ⟨X,qs,e1,e0,k.De e2 (by simp),e3,λi q hq=>?_⟩;rcases e4 i q hq with H|H
  ·exact .inl H
  ·exact .inr (H.fix (Fix.of k))
end
section
variable {c:Mk} {h h':AB}
def Mk.Has(c:Mk)(h:AB)(a:Nat):Prop:=∃X,Jw h (c.R,a)=some ⟨some (X,0),c.s.length+1⟩
structure Mk.Step(c:Mk)(h h':AB):Prop where
 inv:c.I h'
 fix:Fix h h'
 has:∀a,c.Has h a->c.Has h' a
theorem Mk.Step.trans{h'':AB}(x:c.Step h h')(y:c.Step h' h''):c.Step h h'':=⟨y.inv,x.fix.trans y.fix,λa k=>y.has a (x.has a k)⟩
theorem Hv{rs:List Sl}{a:Nat}{r:Sl}(hr:rs[a]?=some r):(rs.map Sl.v)[a]?=some (.slice r.r r.n):=by rw[List.getElem?_map,hr];rfl
theorem Mk.I.lt(i:c.I h):c.R<h.size:=by obtain⟨rs,_,B,_⟩:=i.rows;exact h.Ar B
theorem Mk.Step.of(i:c.I h)(k:DV none h h'):c.Step h h':=by
 refine⟨i.De k,Fix.of k,λa ⟨X,G⟩=>⟨X,?_⟩⟩;obtain⟨rs,h1,B,C,E⟩:=i.rows;obtain⟨w,e1,e2⟩:=AJ G;unfold Jw Jy at *;rw[k.De B (by simp)];rw[B]at G;exact G
theorem Mk.I.look(i:c.I h){a:Nat}(ha:a<c.ns.length):
  ∃r:Sl,Jw h (c.m,0+0)=some ⟨some (c.R,0),c.ns.length⟩/\H0 (⟨some (c.R,0),c.ns.length⟩:Sl) 1 (a:Int)=some (c.R,a)/\Jw h (c.R,a)=some r/\c.VV h a r:=by
 obtain⟨rs,h1,B,C,E⟩:=i.rows;have G:rs[a]?=some rs[a]:=List.getElem?_eq_getElem (by omega);exact⟨rs[a],Hm i.cell (by simp) rfl,Is ha c.R,Hm B (by simp) (Hv G),C a _ G⟩
theorem Mk.I.make(ok:c.Ok)(i:c.I h){a:Nat}(ha:a<c.ns.length)(hfl:c.fl<=h.size):
  ∃B C,B=h.push (.cells (some tR) 2 (List.replicate (c.s.length+1) (.slice none 0)))/\st c.g B (c.R,a) [.slice (some (h.size,0)) (c.s.length+1)]=some C/\c.Step h C/\c.Has C a:=by
 obtain⟨rs,h1,B,C,E⟩:=i.rows;have hlt:=h.Ar B;have k:=DV.push none h (.cells (some tR) 2 (List.replicate (c.s.length+1) (.slice none 0)));obtain⟨N,eh⟩:∃N,N=h.push (.cells (some tR) 2 (List.replicate (c.s.length+1) (.slice none 0))):=⟨_,rfl⟩;rw[<-eh]at k;have zz:N.size=h.size+1:=by rw[eh];rfl
 have g2:=k.De B (by simp);have gx:N.get h.size=some (.cells (some tR) 2 (List.replicate (c.s.length+1) (.slice none 0))):=by rw[eh,AB.A8]
 let ro:Sl:=⟨some (h.size,0),c.s.length+1⟩
 have es:=Qm (g:=c.g) g2 (o:=a) (new:=[ro.v]) (Hq (by have:=ok.fl;omega)) (by simp;omega) rfl;rw[K5 (by simp;omega)]at es;have e1:(rs.map Sl.v).set a ro.v=(rs.set a ro).map Sl.v:=by rw[wD]
 rw[e1]at es;obtain⟨hf,ef⟩:∃hf,hf=N.set c.R (.cells (some tM) 2 ((rs.set a ro).map Sl.v)):=⟨_,rfl⟩;have es:st c.g N (c.R,a) [.slice (some (h.size,0)) (c.s.length+1)]=some (N.set c.R (.cells (some tM) 2 ((rs.set a ro).map Sl.v))):=es;rw[<-ef]at es;have hR:hf.get c.R=some (.cells (some tM) 2 ((rs.set a ro).map Sl.v)):=by rw[ef,AB.B0 _ _ (by omega)]
 have hne:∀id,id≠c.R->hf.get id=N.get id:=λid hid=>by rw[ef,AB.Bw _ _ (by omega) hid]
 have hfx:Fix h hf:=by
  refine⟨by rw[ef];show h.size<=N.size;omega,λid o K H=>?_⟩;have:id≠c.R:=by
   rintro rfl;rw[B]at K;cases K;exact H (.inr rfl)
  rw[hne id this];exact k.De K (by simp)
 have hra:(rs.set a ro)[a]?=some ro:=by rw[List.getElem?_set_self (by omega)]
 refine⟨N,hf,eh,es,⟨⟨hfx.get _ _ i.cell (Du _ _),i.own.De λid hid=>?_,rs.set a ro,by simpa using h1,hR,?_,?_⟩,hfx,?_⟩,h.size,Hm hR (by simp) (Hv hra)⟩
 ·rw[hne id ?_]
  ·exact k.get id (i.own.lt hid) (by simp)
  ·rintro rfl;rcases i.own.2 with⟨M,_⟩|⟨id',rest,e1,e2⟩
   ·simp[Sl.id?,M]at hid
   ·simp[Sl.id?,e1]at hid;subst hid;rw[B]at e2;have:=qX e2;injection this with this _ _;exact absurd this (by decide)
 ·intro b r J;by_cases hab:a=b
  ·subst hab;rw[hra]at J;cases J;refine .inr ⟨h.size,List.replicate (c.s.length+1) ⟨none,0⟩,rfl,hfl,?_,by simp,λi q hq=>.inl (xh (xd hq))⟩;rw[hne _ (by omega),gx];simp[Sl.v]
  ·rw [List.getElem?_set_ne hab]at J;rcases C b r J with K|⟨X,qs,f1,f0,f2,f3,f4⟩
   ·exact .inl K
   ·refine .inr ⟨X,qs,f1,f0,?_,f3,λi q hq=>?_⟩
    ·rw[hne X ?_]
     ·exact k.De f2 (by simp)
     ·rintro rfl;rw[B]at f2;have:=qX f2;injection this with this _ _;exact absurd this (by decide)
    ·rcases f4 i q hq with H|H
     ·exact .inl H
     ·exact .inr (H.fix hfx)
 ·intro b d X n p J hd;have old:∀(e:Nat) (n:Nat),a≠e->(rs.set a ro)[e]?=some (⟨some (h.size,0),n⟩:Sl)->False:=by
   intro e n hne2 he;rw[List.getElem?_set_ne hne2]at he;rcases C e _ he with K|⟨X',qs,f1,f0,f2,f3,f4⟩
   ·cases K
   ·have:X'=h.size:=by
     have:=congrArg Sl.r f1;simp at this;omega
    subst this;have:=h.Ar f2;omega
  by_cases K:a=b
  ·by_cases H:a=d
   ·omega
   ·subst K;rw[hra]at J;have:X=h.size:=by
     have:=congrArg Sl.r (qX J);simp[ro]at this;omega
    subst this;exact(old d p H hd).elim
  ·by_cases H:a=d
   ·subst H;rw[hra]at hd;have:X=h.size:=by
     have:=congrArg Sl.r (qX hd);simp[ro]at this;omega
    subst this;exact(old b n K J).elim
   ·rw[List.getElem?_set_ne K]at J;rw[List.getElem?_set_ne H]at hd;exact E b d X n p J hd
 ·rintro b ⟨X,hX⟩;by_cases K:a=b
  ·subst K;exact⟨h.size,Hm hR (by simp) (Hv hra)⟩
  ·have hbl:b<rs.length:=by
    by_cases J:b<rs.length
    ·exact J
    ·exfalso;have hn:Jy h (c.R,b)=none:=by
      unfold Jy;simp only[B,BQ];rw[xg (by rw[xz];omega)]
     simp[Jw,hn]at hX
   have J:rs[b]?=some rs[b]:=List.getElem?_eq_getElem hbl;have e:=Hm (h:=h) B (by simp) (Hv J);rw[hX]at e;refine⟨X,?_⟩;have hb2:(rs.set a ro)[b]?=some rs[b]:=by rw[List.getElem?_set_ne K];exact J
   have:=Hm hR (by simp) (Hv hb2);rw[this];exact e.symm
end
section
variable {c:Mk} {h h':AB}
theorem OU{rs:List Sl}{R:Nat}(B:h.get R=some (.cells (some tM) 2 (rs.map Sl.v))){a:Nat}{r:Sl}(hX:Jw h (R,a)=some r):rs[a]?=some r:=by
 have hbl:a<rs.length:=by
  by_cases J:a<rs.length
  ·exact J
  ·exfalso;have hn:Jy h (R,a)=none:=by
    unfold Jy;simp only[B,BQ];rw[xg (by rw[xz];omega)]
   simp[Jw,hn]at hX
 have J:rs[a]?=some rs[a]:=List.getElem?_eq_getElem hbl;have e:=Hm (h:=h) B (by simp) (Hv J);rw[hX]at e;rw[J,qX e]
theorem Mk.Has.row(i:c.I h){a:Nat}(k:c.Has h a):∃X qs,Jw h (c.R,a)=some ⟨some (X,0),c.s.length+1⟩/\c.fl<=X/\h.get X=some (.cells (some tR) 2 (List.map Sl.v qs))/\qs.length=c.s.length+1/\∀(i:Nat) (q:Sl),qs[i]?=some q->q=(⟨none,0⟩:Sl)\/c.GD h a i q:=by
 obtain⟨X,hX⟩:=k;obtain⟨rs,h1,B,C,E⟩:=i.rows;rcases C a _ (OU B hX)with K|⟨X',qs,f1,f0,f2,f3,f4⟩
 ·cases K
 ·have:X'=X:=by
   have:=congrArg Sl.r f1;simp at this;omega
  subst this;exact⟨X',qs,hX,f0,f2,f3,f4⟩
theorem Mk.I.put(ok:c.Ok)(i:c.I h){a:Nat}(hs:c.Has h a){p:Nat}(hp:p<=c.s.length){q:Sl}(e:c.GD h a p q):
  ∃X h',Jw h (c.R,a)=some ⟨some (X,0),c.s.length+1⟩/\H0 (⟨some (X,0),c.s.length+1⟩:Sl) 1 (p:Int)=some (X,p)/\st c.g h (X,p) [.slice q.r q.n]=some h'/\c.Step h h':=by
 obtain⟨X,qs,hX,hfl,hg,hq,hall⟩:=hs.row i;obtain⟨rs,h1,B,C,E⟩:=i.rows;have hlt:=h.Ar hg;have es:=Qm (g:=c.g) hg (o:=p) (new:=[q.v]) (Hq hfl) (by simp;omega) rfl;rw[K5 (by simp;omega)]at es;have e1:(qs.map Sl.v).set p q.v=(qs.set p q).map Sl.v:=by rw[wD]
 rw[e1]at es;obtain⟨hf,ef⟩:∃hf,hf=h.set X (.cells (some tR) 2 ((qs.set p q).map Sl.v)):=⟨_,rfl⟩;rw[<-ef]at es;have gX:hf.get X=some (.cells (some tR) 2 ((qs.set p q).map Sl.v)):=by rw[ef,AB.B0 _ _ hlt]
 have hne:∀id,id≠X->hf.get id=h.get id:=λid hid=>by rw[ef,AB.Bw _ _ hlt hid]
 have hfx:Fix h hf:=by
  refine⟨by rw[ef];show h.size<=h.size;omega,λid o K H=>?_⟩;have:id≠X:=by
   rintro rfl;rw[hg]at K;cases K;exact H (.inl rfl)
  rw[hne id this];exact K
 have hRX:c.R≠X:=by
  intro M;rw[M]at B;rw[hg]at B;have:=qX B;injection this with this _ _;exact absurd this (by decide)
 have gR:hf.get c.R=some (.cells (some tM) 2 (rs.map Sl.v)):=by rw[hne _ hRX];exact B
 refine⟨X,hf,hX,Is (by omega) X,es,⟨hfx.get _ _ i.cell (Du _ _),i.own.De λid hid=>?_,rs,h1,gR,λb r J=>?_,E⟩,hfx,λb ⟨X',hX'⟩=>⟨X',?_⟩⟩
 ·rw[hne id ?_];rintro rfl;rcases i.own.2 with⟨M,_⟩|⟨id',rest,e1,e2⟩
  ·simp[Sl.id?,M]at hid
  ·simp[Sl.id?,e1]at hid;subst hid;rw[hg]at e2;have:=qX e2;injection this with this _ _;exact absurd this (by decide)
 ·have hra:=OU B hX;by_cases hab:a=b
  ·subst hab;rw[hra]at J;cases J;refine .inr ⟨X,qs.set p q,rfl,hfl,gX,by simpa using hq,λj w hw=>?_⟩;by_cases D:p=j
   ·subst D;rw[List.getElem?_set_self (by omega)]at hw;cases hw;exact .inr (e.fix hfx)
   ·rw[List.getElem?_set_ne D]at hw;rcases hall j w hw with H|H
    ·exact .inl H
    ·exact .inr (H.fix hfx)
  ·rcases C b r J with K|⟨X',qs',f1,f0,f2,f3,f4⟩
   ·exact .inl K
   ·refine .inr ⟨X',qs',f1,f0,?_,f3,λj w hw=>?_⟩
    ·rw[hne X' ?_]
     ·exact f2
     ·rintro rfl;subst f1;exact hab (E a b _ _ _ hra J)
    ·rcases f4 j w hw with H|H
     ·exact .inl H
     ·exact .inr (H.fix hfx)
 ·exact Hm gR (by simp) (Hv (OU B hX'))
end
section
variable {c:Mk} {h h':AB}
def Mk.Np(c:Mk)(Y:Nat):Mk:={c with U:=λy=>c.U y\/y=Y}
theorem Mk.GD.PH{Y a i:Nat}{q:Sl}(e:(c.Np Y).GD h a i q):c.GD h a i q:=by
 obtain⟨Z,bs,h1,B,C,M,E⟩:=e;exact⟨Z,bs,h1,B,C,λhu=>M (.inl hu),E⟩
theorem Mk.GD.Np{Y a i:Nat}{q:Sl}(e:c.GD h a i q)(hy:h.size<=Y):(c.Np Y).GD h a i q:=by
 obtain⟨Z,bs,h1,B,C,M,E⟩:=e;refine⟨Z,bs,h1,B,C,λhu=>?_,E⟩;rcases hu with hu|hu
 ·exact M hu
 ·have:=h.Ar C.get;omega
theorem Mk.I.PH{Y:Nat}(i:(c.Np Y).I h):c.I h:=by
 obtain⟨rs,h1,B,C,E⟩:=i.rows;refine⟨i.cell,i.own,rs,h1,B,λa r hr=>?_,E⟩;rcases C a r hr with K|⟨X,qs,e1,e0,e2,e3,e4⟩
 ·exact .inl K
 ·refine .inr ⟨X,qs,e1,e0,e2,e3,λi q hq=>?_⟩;rcases e4 i q hq with H|H
  ·exact .inl H
  ·exact .inr H.PH
theorem Mk.I.Np{Y:Nat}(i:c.I h)(hy:h.size<=Y):(c.Np Y).I h:=by
 obtain⟨rs,h1,B,C,E⟩:=i.rows;refine⟨i.cell,i.own,rs,h1,B,λa r hr=>?_,E⟩;rcases C a r hr with K|⟨X,qs,e1,e0,e2,e3,e4⟩
 ·exact .inl K
 ·refine .inr ⟨X,qs,e1,e0,e2,e3,λi q hq=>?_⟩;rcases e4 i q hq with H|H
  ·exact .inl H
  ·exact .inr (H.Np hy)
theorem Mk.I.only{Y:Nat}{bs:List Bool}(i:c.I h)(hu:c.U Y)(b:Bo h Y bs)(o:DV (some Y) h h'):c.I h'/\∀a,c.Has h a->c.Has h' a:=by
 obtain⟨rs,h1,B,C,E⟩:=i.rows;have ne:∀{id gr stt cs},h.get id=some (.cells gr stt cs)->gr≠some tB->some id≠some Y:=by
  intro id gr stt cs hg hn he;have:=qX he;subst this;rw[b.get]at hg;have:=qX hg;injection this with this _ _;exact hn this.symm
 have nR:(some tR:Option TypeId)≠some tB:=by decide
 have nM:(some tM:Option TypeId)≠some tB:=by decide
 have gR:=o.De B (ne B nM);refine⟨⟨o.De i.cell (ne i.cell (by decide)),i.own.De λid hid=>?_,rs,h1,gR,λa r hr=>?_,E⟩,λa ⟨X,hX⟩=>⟨X,Hm gR (by simp) (Hv (OU B hX))⟩⟩
 ·rcases i.own.2 with⟨M,_⟩|⟨id',rest,e1,e2⟩
  ·simp[Sl.id?,M]at hid
  ·simp[Sl.id?,e1]at hid;subst hid;rw[o.De e2 (ne e2 (by decide)),e2]
 ·rcases C a r hr with K|⟨X,qs,e1,e0,e2,e3,e4⟩
  ·exact .inl K
  ·refine .inr ⟨X,qs,e1,e0,o.De e2 (ne e2 nR),e3,λi q hq=>?_⟩;rcases e4 i q hq with H|⟨Z,zs,f1,f2,f3,f0,f4⟩
   ·exact .inl H
   ·refine .inr ⟨Z,zs,f1,f2,⟨o.De f3.get ?_⟩,f0,f4⟩;intro he;have:=qX he;subst this;exact f0 hu
end
section
variable {c:Mk} {h h':AB}
noncomputable abbrev Ld:=Bi
abbrev Mk.at(c:Mk)(U:Nat->Prop):Mk:={c with U:=U}
abbrev Mk.tree(c:Mk):List AA:=[c.sl.v,.int .i64 c.root]
structure Mk.Loc(c:Mk)(Y:Nat)(M N:AB)(bs:List Bool):Prop where
 inv:(c.Np Y).I N
 fix:Fix M N
 has:∀a,c.Has M a->c.Has N a
 bo:Bo N Y bs
 ln:bs.length=c.s.length+1
 new:M.size<=Y
 fl:c.fl<=Y
theorem Mk.Loc.call{Y:Nat}{M:AB}{bs:List Bool}(l:c.Loc Y M h bs)(s:(c.Np Y).Step h h'):c.Loc Y M h' bs:=
 ⟨s.inv,l.fix.trans s.fix,λa k=>s.has a (l.has a k),s.fix.bo l.bo,l.ln,l.new,l.fl⟩
theorem Mk.Loc.only{Y:Nat}{M:AB}{bs bs':List Bool}(l:c.Loc Y M h bs)(o:DV (some Y) h h')(b:Bo h' Y bs')(hl:bs'.length=c.s.length+1):c.Loc Y M h' bs':=by
 obtain⟨i,k⟩:=l.inv.only (.inr rfl) l.bo o;exact⟨i,l.fix.new o l.new,λa x=>k a (l.has a x),b,hl,l.new,l.fl⟩
theorem Mk.Loc.aL(ok:c.Ok)(i:c.I h){M:AB}(k:DV none M h)(hs:∀a,c.Has M a->c.Has h a):c.Loc h.size M (h.push (.cells (some tB) 2 (E3 (List.replicate (c.s.length+1) false)))) (List.replicate (c.s.length+1) false):=by
 have kp:=DV.push none h (.cells (some tB) 2 (E3 (List.replicate (c.s.length+1) false)));have i2:=i.Np (xe h.size);have st:=Mk.Step.of i2 kp;exact⟨st.inv,Fix.of (k.trans kp),λa x=>st.has a (hs a x),⟨AB.A8 _ _⟩,by simp,k.size,by have:=ok.fl;have:=i.lt;omega⟩
def Mk.KR(c:Mk)(n a i:Nat):Prop:=∀(U:Nat->Prop) (h:AB),(∀y,U y->y<h.size)->(c.at U).I h->
 W ((Ld n).A5 c.g h (some (c.m,0)) c.tree (a:Int) c.s (i:Int)) λr=>(c.at U).GD r.2 a i r.1/\(c.at U).Step h r.2
theorem Hc(ok:c.Ok):i64.wrap ((c.s.length:Int)+1)=((c.s.length+1:Nat):Int):=G4 (by have:=ok.len;omega)
theorem OT{L:Nat}{ys zs:List Bool}{j:Nat}(D:j<L)(ly:ys.length=L)(lz:zs.length=L):((List.range L).map λi=>ys.getD i false||zs.getD i false)[j]?=some true↔ys[j]?=some true\/zs[j]?=some true:=by
 have e1:ys[j]?=some (ys.getD j false):=by simp[ly,D]
 have e2:zs[j]?=some (zs.getD j false):=by simp[lz,D]
 rw[List.getElem?_map,List.getElem?_range D,e1,e2];simp
theorem OM(ok:c.Ok){n x:Nat}(G:∀i,i<=c.s.length->c.KR n x i){U:Nat->Prop}(hU:∀y,U y->y<h.size)(i:(c.at U).I h){Z:Nat}{fs:List Bool}(bz:Bo h Z fs)(lz:fs.length=c.s.length+1):
  W ((Ld (n+1)).B2 c.g h (some (c.m,0)) c.tree (x:Int) c.s ⟨some (Z,0),c.s.length+1⟩) λr=>∃Y bs,r.1=⟨some (Y,0),c.s.length+1⟩/\(c.at U).Loc Y h r.2 bs/\∀j,j<=c.s.length->(bs[j]?=some true↔∃k,k<=c.s.length/\fs[k]?=some true/\Mt c.ns c.s x 0 k j):=by
 show W (Cq (Ld n) c.g h (some (c.m,0)) c.tree (x:Int) c.s ⟨some (Z,0),c.s.length+1⟩) _;have hlen:=ok.len;have hfl:=ok.fl;have hlt:c.R<h.size:=i.lt;have zlt:=h.Ar bz.get;unfold Cq;refine Dc rfl ?_;simp only[qW,Hc ok,xm];obtain⟨h1,e1⟩:∃h1,h1=h.push (.cells none 2 c.tree):=⟨_,rfl⟩;rw[<-e1,LR (by omega)];simp only[qW];have k1:DV none h h1:=by rw[e1];exact DV.push _ _ _
 have z1:h1.size=h.size+1:=by rw[e1];rfl
 have g1:h1.get h.size=some (.cells none 2 c.tree):=by rw[e1,AB.A8]
 have st1:=Mk.Step.of i k1;have l2:=Mk.Loc.aL (c:=c.at U) ⟨ok.fl,ok.len,ok.cnt,ok.may,ok.set⟩ st1.inv k1 st1.has;obtain⟨B,e2⟩:∃B,B=h1.push (.cells (some tB) 2 (E3 (List.replicate (c.s.length+1) false))):=⟨_,rfl⟩;have l2:(c.at U).Loc h1.size h B (List.replicate (c.s.length+1) false):=by rw[e2];exact l2
 have g2:B.get h.size=some (.cells none 2 c.tree):=by rw[e2];exact(DV.push none h1 _).De g1 (by simp)
 rw[<-e2]
 refine AP (W.mono (W.loop (λst=>∃(k:Nat) (bs:List Bool),st.1=k/\k<=c.s.length+1/\(c.at U).Loc h1.size h st.2 bs/\st.2.get h.size=some (.cells none 2 c.tree)/\∀j,j<=c.s.length->(bs[j]?=some true↔∃q,q<k/\fs[q]?=some true/\Mt c.ns c.s x 0 q j)) (λst=>c.s.length+1 - st.1.toNat)
  ⟨0,_,rfl,by omega,l2,g2,λj D=>Iff.intro (λh=>by have:=xh (xd h);cases this) (λh=>by obtain⟨q,h,_⟩:=h;omega)⟩ ?_ (Q:=λN=>∃bs,(c.at U).Loc h1.size h N bs/\∀j,j<=c.s.length->(bs[j]?=some true↔∃q,q<c.s.length+1/\fs[q]?=some true/\Mt c.ns c.s x 0 q j))) ?_)
 ·rintro⟨_,N⟩ ⟨k,bs,rfl,F,l,gt,bits⟩;dsimp only at l gt;unfold EE;dsimp only;simp only[Hc ok,xm];refine Bq (λhle=>?_) (λhgt=>?_)
  ·have hle:k<=c.s.length:=by omega
   have fk:fs[k]?=some (fs.getD k false):=by rw[xb,List.getElem?_eq_getElem (by omega)];rfl
   rw[Is (by omega) Z];simp only[qW,(l.fix.bo bz).ld fk];cases J:fs.getD k false
   ·rw[J]at fk;simp only[Aq,qW];rw[G4 (by omega)];refine AH ⟨⟨k+1,bs,rfl,by omega,l,gt,λj D=>?_⟩,by dsimp only;omega⟩;rw[bits j D];constructor
    ·rintro⟨q,h1,B,C⟩;exact⟨q,by omega,B,C⟩
    ·rintro⟨q,h1,B,C⟩;refine⟨q,?_,B,C⟩;by_cases hq:q=k
     ·subst hq;rw[fk]at B;cases B
     ·omega
   ·rw[J]at fk;simp only[BU];have lA:Gp N (h.size,0) 2=some c.tree:=by rw[Jr gt (by simp) (xe 2)];rfl
    rw[lA];simp only[qW];refine AP (AP (W.mono (G k hle (λy=>U y\/y=h1.size) N ?_ l.inv) ?_))
    ·intro y hy;have:=l.fix.size;have:=N.Ar l.bo.get;rcases hy with hy|hy
     ·have:=hU y hy;omega
     ·omega
    rintro⟨x6,E⟩ ⟨⟨Q,qs,rfl,lq,bq,_,hq⟩,s4⟩;dsimp only at bq s4⊢;have l4:=l.call s4;have g4:=s4.fix.get _ _ gt (Du _ _);have hmay:c.g.may h1.size=true:=Hq l4.fl;have ln4:bs.length=c.s.length+1:=l4.ln;have lnq:qs.length=c.s.length+1:=lq;have ha:=Mh (g:=c.g) (L:=c.s.length+1) l4.bo bq hmay ln4 lnq (by omega);refine AP (W.mono ha ?_);rintro⟨_,K⟩ ⟨b5,o5⟩;dsimp only at b5 o5⊢;have l5:=l4.only o5 b5 (by rw[xz,xH]);have g5:=o5.De g4 (by intro he;have:=qX he;omega);generalize hE:((List.range (c.s.length+1)).map λi=>bs.getD i false||qs.getD i false)=es at l5;refine AH ?_;rw[G4 (by omega)];refine AH ⟨⟨k+1,es,rfl,by omega,l5,g5,λj D=>?_⟩,by dsimp only;omega⟩;rw[<-hE,OT (by omega) ln4 lnq,bits j D,hq j D];constructor
    ·rintro(⟨q,h1,B,C⟩|C)
     ·exact⟨q,by omega,B,C⟩
     ·exact⟨k,by omega,fk,C⟩
    ·rintro⟨q,h1,B,C⟩;by_cases hqk:q=k
     ·subst hqk;exact .inr C
     ·exact .inl ⟨q,by omega,B,C⟩
  ·have:k=c.s.length+1:=by omega
   subst this;exact AH ⟨bs,l,bits⟩
 ·rintro N ⟨bs,l,bits⟩;refine AH ⟨h1.size,bs,rfl,l,λj D=>?_⟩;rw[bits j D];constructor
  ·rintro⟨q,h1,B,C⟩;exact⟨q,by omega,B,C⟩
  ·rintro⟨q,h1,B,C⟩;exact⟨q,by omega,B,C⟩
end
section
variable {c:Mk} {h h':AB}
theorem Mk.Loc.step{Y:Nat}{M:AB}{bs:List Bool}(l:c.Loc Y M h bs):c.Step M h:=⟨l.inv.PH,l.fix,l.has⟩
theorem Mk.Ok.at(ok:c.Ok)(U:Nat->Prop):(c.at U).Ok:=⟨ok.fl,ok.len,ok.cnt,ok.may,ok.set⟩
theorem RW{c0:Mk}(ok:c0.Ok){g:Gd}{h T:AB}{Y:Nat}{os bs:List Bool}(bo:Bo h T.size os)(bb:Bo h Y bs)(lo:os.length=c0.s.length+1)(lb:bs.length=c0.s.length+1)(hm:g.may Y=true)(hne:T.size≠Y):
  W (loop (Ch g c0.s T ⟨some (Y,0),c0.s.length+1⟩) (false,(0:Int),h)) λr=>Bo r.2 Y ((List.range (c0.s.length+1)).map λi=>bs.getD i false&& !os.getD i false)/\DV (some Y) h r.2/\(r.1=true↔∃i,i<=c0.s.length/\bs.getD i false=true/\os.getD i false=false):=by
 let L:=c0.s.length+1
 let V:Nat->List Bool:=λk=>(List.range L).map λi=>if i<k then bs.getD i false&& !os.getD i false else bs.getD i false
 have hlen:=ok.len;refine W.mono (W.loop (λst=>∃k:Nat,st.2.1=k/\k<=L/\Bo st.2.2 Y (V k)/\DV (some Y) h st.2.2/\(st.1=true↔∃i,i<k/\bs.getD i false=true/\os.getD i false=false)) (λst=>L - st.2.1.toNat) ⟨0,rfl,by omega,?_,DV.refl _ _,by simp⟩ ?_ (Q:=λr=>Bo r.2 Y (V L)/\DV (some Y) h r.2/\(r.1=true↔∃i,i<L/\bs.getD i false=true/\os.getD i false=false))) ?_
 ·have:V 0=bs:=by
   apply xU (by simp[V,L,lb]);intro i h1 B;simp[V,B]
  show Bo h Y (V 0);rw[this];exact bb
 ·rintro⟨fr,_,N⟩ ⟨k,rfl,F,bv,o,hf⟩;dsimp only at bv o hf;unfold Ch;dsimp only;simp only[Hc ok,xm];refine Bq (λhle=>?_) (λhgt=>?_)
  ·have hlt:k<L:=by show k<c0.s.length+1;omega
   have vk:(V k)[k]?=some (bs.getD k false):=by simp[V,hlt]
   have ok_:os[k]?=some (os.getD k false):=by rw[xb,List.getElem?_eq_getElem (by omega)];rfl
   rw[Is hlt Y];simp only[qW,bv.ld vk];rw[Is hlt T.size];have lo':Ri N (T.size,k)=some (os.getD k false):=(Bo.mk (o.De bo.get (by simpa using hne))).ld ok_;simp only[qW,lo'];rw[show(A3 (bs.getD k false) (some (!os.getD k false)) (some false):Option Bool)=some (bs.getD k false&& !os.getD k false) from SJ _ _];simp only[qW];obtain⟨B,es,b2,o2,z2⟩:=bv.st (g:=g) hm (i:=k) (by simp[V];exact hlt) (bs.getD k false&& !os.getD k false);rw[es];simp only[qW];have v2:((V k).set k (bs.getD k false&& !os.getD k false))[k]?=some (bs.getD k false&& !os.getD k false):=by rw[List.getElem?_set_self (by simp[V];exact hlt)]
   simp only[b2.ld v2,qW,Qy];rw[G4 (by omega)];refine AH ⟨⟨k+1,rfl,by show k+1<=c0.s.length+1;omega,?_,o.trans o2,?_⟩,by dsimp only;omega⟩
   ·dsimp only;have:(V k).set k (bs.getD k false&& !os.getD k false)=V (k+1):=by
     apply xU (by simp[V]);intro i h1 B;rw[List.getElem_set];by_cases hi:k=i
     ·subst hi;simp[V]
     ·rw[xg hi];simp only[V,List.getElem_map,List.getElem_range];by_cases C:i<k
      ·rw[xj C,xj (by omega)]
      ·rw[xg C,xg (by omega)]
    rw[<-this];exact b2
   ·dsimp only;rw[xX,hf,xf,xn];constructor
    ·rintro(⟨i,h1,B⟩|B)
     ·exact⟨i,by omega,B⟩
     ·exact⟨k,by omega,B⟩
    ·rintro⟨i,h1,B⟩;by_cases hik:i=k
     ·subst hik;exact .inr B
     ·exact .inl ⟨i,by omega,B⟩
  ·have:k=L:=by show k=c0.s.length+1;have:k<=c0.s.length+1:=F;omega
   subst this;exact AH ⟨bv,o,hf⟩
 ·rintro r ⟨h1,B,C⟩;refine⟨?_,B,?_⟩
  ·have:V L=(List.range (c0.s.length+1)).map λi=>bs.getD i false&& !os.getD i false:=by
    apply xN;intro i hi;rw[xj (xP.1 hi)]
   rw[<-this];exact h1
  ·rw[C];constructor
   ·rintro⟨i,E,K⟩;exact⟨i,by have:i<c0.s.length+1:=E;omega,K⟩
   ·rintro⟨i,E,K⟩;exact⟨i,by show i<c0.s.length+1;omega,K⟩
theorem Mt.top{ns:List Nd}{s:List UInt8}{a:Nat}{t:Int}{i j:Nat}(m:Mt ns s a t i j):i<=s.length->j<=s.length:=by
 induction m with
 |empty _ _=>exact λh=>h
 |one _ _ J _=>intro _;have:=(List.getElem?_eq_some_iff.1 J).1;omega
 |front _ _=>exact λh=>h
 |back _ _=>exact λh=>h
 |UN _ _ _ _ ih=>exact ih
 |UK _ _ _ _ ih=>exact ih
 |group _ _ _ _ ih=>exact ih
 |cat _ _ _ _ _ _ ih1 ih2=>exact λh=>ih2 (ih1 h)
 |Qb _ _ _=>exact λh=>h
 |Oq _ _ _ _ _ _ _ ih1 ih2=>exact λh=>ih2 (ih1 h)
theorem It.top{ns:List Nd}{s:List UInt8}{x r i j:Nat}(m:It ns s x r i j):i<=s.length->j<=s.length:=by
 induction m with
 |z=>exact λh=>h
 |s m _ ih=>exact λh=>ih (m.top h)
theorem Mk.Loc.begin{M:AB}(ok:c.Ok)(s:c.Step M h):c.Loc h.size M (h.push (.cells (some tB) 2 (E3 (List.replicate (c.s.length+1) false)))) (List.replicate (c.s.length+1) false):=by
 have l:=Mk.Loc.aL ok s.inv (DV.refl none h) (λ_ x=>x);exact⟨l.inv,s.fix.trans l.fix,λa x=>l.has a (s.has a x),l.bo,l.ln,s.fix.size,l.fl⟩
end
section
variable {c:Mk} {h h':AB}
theorem Dk.top{ns:List Nd}{s:List UInt8}{x lo i k j:Nat}(d:Dk ns s x lo i k j)(hi:i<=s.length):j<=s.length:=by
 obtain⟨r,_,m⟩:=d;exact m.top hi
theorem Rv(ok:c.Ok){n x:Nat}(G:∀i,i<=c.s.length->c.KR n x i){U:Nat->Prop}(hU:∀y,U y->y<h.size){nd:Nd}(hxa:nd.a=x)(hmi:0<=nd.mi/\nd.mi<=255){i:Nat}(hi:i<=c.s.length)
  {Th T1:Nat} {h1 E:AB} (eT:T1=h1.size) {Y0:Nat} (st4:(c.at U).Step h E) (gt:E.get Th=some (.cells none 2 c.tree)) (gn:E.get T1=some (.cells none 2 (HV nd))) {hT:AB} (eTh:Th=hT.size) (b4:Bo E Y0 ((List.replicate (c.s.length+1) false).set i true)):
  W (loop (Cl (Ld (n+1)) c.g hT (some (c.m,0)) c.s h1) ((⟨some (Y0,0),c.s.length+1⟩:Sl),(0:Int),E)) λr=>∃Y bs,r.1=⟨some (Y,0),c.s.length+1⟩/\bs.length=c.s.length+1/\Bo r.2 Y bs/\(c.at U).Step h r.2/\r.2.get Th=some (.cells none 2 c.tree)/\r.2.get T1=some (.cells none 2 (HV nd))/\∀j,j<=c.s.length->(bs[j]?=some true↔It c.ns c.s x nd.mi.toNat i j):=by
 have hlen:=ok.len;refine W.loop (λst=>∃(k Y:Nat) (bs:List Bool),st.2.1=k/\(k:Int)<=nd.mi/\st.1=⟨some (Y,0),c.s.length+1⟩/\bs.length=c.s.length+1/\Bo st.2.2 Y bs/\(c.at U).Step h st.2.2/\st.2.2.get Th=some (.cells none 2 c.tree)/\st.2.2.get T1=some (.cells none 2 (HV nd))/\∀j,j<=c.s.length->(bs[j]?=some true↔It c.ns c.s x k i j)) (λst=>(nd.mi - st.2.1).toNat)
  ⟨0,Y0,_,rfl,hmi.1,rfl,by simp,b4,st4,gt,gn,λj D=>?_⟩ ?_
 ·constructor
  ·intro J;by_cases hij:i=j
   ·subst hij;exact .z
   ·rw[List.getElem?_set_ne hij]at J;have:=xh (xd J);cases this
  ·intro hI;cases hI;rw[List.getElem?_set_self (by simp;omega)]
 ·rintro⟨_,_,K⟩ ⟨k,Y,bs,rfl,F,rfl,ln,b5,s5,gt5,gn5,bits⟩;dsimp only at b5 s5 gt5 gn5;unfold Cl;dsimp only;subst eT eTh;have l3:Me K (h1.size,3) .i64=some nd.mi:=I6 gn5 (by simp) rfl;have l1:Me K (h1.size,1) .i64=some nd.a:=I6 gn5 (by simp) rfl;have lA:Gp K (hT.size,0) 2=some c.tree:=by rw[Jr gt5 (by simp) (xe 2)];rfl
  rw[l3];simp only[qW];refine Bq (λhlt=>?_) (λhge=>?_)
  ·rw[lA];simp only[qW];rw[l1];simp only[qW];rw[hxa];refine AP (W.mono (OM ok G (U:=U) (λy hy=>by have:=hU y hy;have:=s5.fix.size;omega) s5.inv b5 ln) ?_);rintro⟨_,H⟩ ⟨Y',bs',rfl,l6,bits'⟩;dsimp only at l6⊢;rw[G4 (by omega)];refine AH ⟨⟨k+1,Y',bs',rfl,by omega,rfl,l6.ln,l6.bo,s5.trans l6.step,l6.fix.get _ _ gt5 (Du _ _),l6.fix.get _ _ gn5 (Du _ _),λj D=>?_⟩,by dsimp only;omega⟩;rw[bits' j D];constructor
   ·rintro⟨q,h1,B,C⟩;exact((bits q h1).1 B).snoc C
   ·intro hI;obtain⟨q,h1,B⟩:=hI.last;have:=h1.top hi;exact⟨q,this,(bits q this).2 h1,B⟩
  ·have:(k:Int)=nd.mi:=by omega
   refine AH ⟨Y,bs,rfl,ln,b5,s5,gt5,gn5,λj D=>?_⟩;rw[show nd.mi.toNat=k by omega];exact bits j D
end
section
variable {c:Mk} {h h':AB}
theorem Um{L:Nat}{ys zs:List Bool}{j:Nat}(D:j<L)(ly:ys.length=L)(lz:zs.length=L):((List.range L).map λi=>ys.getD i false&& !zs.getD i false)[j]?=some true↔ys[j]?=some true/\¬zs[j]?=some true:=by
 have e1:ys[j]?=some (ys.getD j false):=by rw[xb,List.getElem?_eq_getElem (by omega)];rfl
 have e2:zs[j]?=some (zs.getD j false):=by rw[xb,List.getElem?_eq_getElem (by omega)];rfl
 rw[List.getElem?_map,List.getElem?_range D,e1,e2];simp
theorem PY{L:Nat}{ys:List Bool}{j:Nat}(D:j<L)(ly:ys.length=L):ys.getD j false=true↔ys[j]?=some true:=by
 have e1:ys[j]?=some (ys.getD j false):=by rw[xb,List.getElem?_eq_getElem (by omega)];rfl
 rw[e1];simp
theorem SR(ok:c.Ok){n x:Nat}(G:∀i,i<=c.s.length->c.KR n x i){U:Nat->Prop}(hU:∀y,U y->y<h.size){nd:Nd}(hxa:nd.a=x){i:Nat}(hi:i<=c.s.length){lo more:Nat}(hmore:more<=c.s.length+1)
  {h1 T hT h9:AB} {x14:Int} (hmn:mn x14 ((c.s.length+1:Nat):Int)=(more:Int)) {Y0:Nat} {ws os:List Bool} (lw:ws.length=c.s.length+1) (b9:Bo h9 Y0 ws) (l9:(c.at U).Loc T.size h h9 os)
  (gt:h9.get hT.size=some (.cells none 2 c.tree)) (gn:h9.get h1.size=some (.cells none 2 (HV nd))) (nT:hT.size≠T.size) (n1:h1.size≠T.size)
  (eo:∀j,j<=c.s.length->(os[j]?=some true↔Dk c.ns c.s x lo i 0 j)) (ew:∀j,j<=c.s.length->(ws[j]?=some true↔Dk c.ns c.s x lo i 0 j)):
  W (loop (Ci (Ld (n+1)) c.g hT (some (c.m,0)) c.s h1 T x14) ((⟨some (Y0,0),c.s.length+1⟩:Sl),(0:Int),h9)) λr=>∃N os,(r=.inl N\/r=.inr (⟨some (T.size,0),c.s.length+1⟩,N))/\(c.at U).Loc T.size h N os/\∀j,j<=c.s.length->(os[j]?=some true↔Dk c.ns c.s x lo i more j):=by
 have hlen:=ok.len
 refine W.loop (λst=>∃(k Y:Nat) (ws os:List Bool),st.2.1=k/\k<=more/\st.1=⟨some (Y,0),c.s.length+1⟩/\ws.length=c.s.length+1/\Bo st.2.2 Y ws/\(c.at U).Loc T.size h st.2.2 os/\st.2.2.get hT.size=some (.cells none 2 c.tree)/\st.2.2.get h1.size=some (.cells none 2 (HV nd))/\
   (∀j,j<=c.s.length->(os[j]?=some true↔Dk c.ns c.s x lo i k j))/\(∀j,j<=c.s.length->ws[j]?=some true->Dk c.ns c.s x lo i k j)/\
   ∀j,j<=c.s.length->Dk c.ns c.s x lo i (k+1) j->Dk c.ns c.s x lo i k j\/∃m,m<=c.s.length/\ws[m]?=some true/\Mt c.ns c.s x 0 m j) (λst=>more - st.2.1.toNat)
  ⟨0,Y0,ws,os,rfl,by omega,rfl,lw,b9,l9,gt,gn,eo,λj D hw=>(ew j D).1 hw,λj D hd=>?_⟩ ?_
 ·rcases Dk.succ.1 hd with B|⟨m,B,C⟩
  ·exact .inl B
  ·exact .inr ⟨m,B.top hi,(ew m (B.top hi)).2 B,C⟩
 ·rintro⟨_,_,h10⟩ ⟨k,Y,ws,os,rfl,F,rfl,lw,b10,l10,gt10,gn10,eo,ew,cl⟩;dsimp only at b10 l10 gt10 gn10;unfold Ci;dsimp only;simp only[Hc ok,xm];rw[hmn];have l1:Me h10 (h1.size,1) .i64=some nd.a:=I6 gn10 (by simp) rfl;have lA:Gp h10 (hT.size,0) 2=some c.tree:=by rw[Jr gt10 (by simp) (xe 2)];rfl
  refine Bq (λhlt=>?_) (λhge=>?_)
  ·have hlt:k<more:=by omega
   rw[lA];simp only[qW];rw[l1];simp only[qW];rw[hxa];have zO:=h10.Ar l10.bo.get;have hU2:∀y,(U y\/y=T.size)->y<h10.size:=by
    intro y hy;have hz:=l10.fix.size;rcases hy with hy|hy
    ·have:=hU y hy;omega
    ·omega
   refine AP (W.mono (OM ok G (U:=λy=>U y\/y=T.size) (h:=h10) hU2 l10.inv b10 lw) ?_);rintro⟨_,h11⟩ ⟨Y',bs,rfl,l11,bits⟩;dsimp only at l11⊢;have lO:=l10.call l11.step;have nOY:T.size≠Y':=by have:=l11.new;omega
   have VP:os.length=c.s.length+1:=l10.ln;have lnB:bs.length=c.s.length+1:=l11.ln;have hmY:c.g.may Y'=true:=Hq l11.fl;refine AP (W.mono (RW ok (g:=c.g) lO.bo l11.bo VP lnB hmY nOY) ?_);rintro⟨fr,h14⟩ ⟨b14,o14,hfr⟩;dsimp only at b14 o14 hfr⊢;have l14:=l11.only o14 b14 (by rw[xz,xH]);have lO14:=l10.call l14.step;generalize hV:((List.range (c.s.length+1)).map λi=>bs.getD i false&& !os.getD i false)=vs at b14 l14;have lnV:vs.length=c.s.length+1:=l14.ln;have ev:∀j,j<=c.s.length->(vs[j]?=some true↔bs[j]?=some true/\¬os[j]?=some true):=λj D=>by rw[<-hV];exact Um (by omega) lnB VP
   have st1:∀j,j<=c.s.length->(Dk c.ns c.s x lo i (k+1) j↔os[j]?=some true\/vs[j]?=some true):=by
    intro j D;constructor
    ·intro hd;by_cases ho:os[j]?=some true
     ·exact .inl ho
     ·rcases cl j D hd with B|⟨m,B,C,E⟩
      ·exact .inl ((eo j D).2 B)
      ·exact .inr ((ev j D).2 ⟨(bits j D).2 ⟨m,B,C,E⟩,ho⟩)
    ·rintro(B|B)
     ·exact((eo j D).1 B).mono (by omega)
     ·obtain⟨m,C,E,K⟩:=(bits j D).1 ((ev j D).1 B).1;exact Dk.succ.2 (.inr ⟨m,ew m C E,K⟩)
   refine Bd (λhno=>?_) (λhyes=>?_)
   ·have hno:fr=false:=by simpa using hno
    refine AH ⟨h14,os,.inr rfl,lO14,λj D=>?_⟩;rw[eo j D];have stop:∀j,Dk c.ns c.s x lo i (k+1) j->Dk c.ns c.s x lo i k j:=by
     intro j hd;have D:=hd.top hi;rcases(st1 j D).1 hd with B|B
     ·exact(eo j D).1 B
     ·exfalso;have C:=(ev j D).1 B
      have:fr=true:=hfr.2 ⟨j,D,(PY (by omega) lnB).2 C.1,by
       have:=C.2;rw[<-PY (by omega) VP]at this
       simpa using this⟩
      rw[hno]at this;cases this
    constructor
    ·exact Dk.mono F
    ·intro hd;exact Dk.stop stop (more - k) j (by rw[show k+(more - k)=more by omega];exact hd)
   ·have hmO:c.g.may T.size=true:=Hq l10.fl;refine AP (W.mono (Mh (g:=c.g) (L:=c.s.length+1) lO14.bo b14 hmO VP lnV (by omega)) ?_);rintro⟨_,h15⟩ ⟨b15,o15⟩;dsimp only at b15 o15⊢;have l15:=lO14.only o15 b15 (by rw[xz,xH]);generalize hE:((List.range (c.s.length+1)).map λi=>os.getD i false||vs.getD i false)=es at l15;have ee:∀j,j<=c.s.length->(es[j]?=some true↔Dk c.ns c.s x lo i (k+1) j):=λj D=>by rw[<-hE,OT (by omega) VP lnV,st1 j D]
    rw[G4 (by omega)];refine AH ⟨⟨k+1,Y',vs,es,rfl,by omega,rfl,lnV,⟨o15.De b14.get (by intro he;have:=qX he;omega)⟩,l15,?_,?_,ee,λj D hv=>(st1 j D).2 (.inr hv),λj D hd=>?_⟩,by dsimp only;omega⟩
    ·exact o15.De (l14.fix.get _ _ gt10 (Du _ _)) (by intro he;exact nT (qX he))
    ·exact o15.De (l14.fix.get _ _ gn10 (Du _ _)) (by intro he;exact n1 (qX he))
    ·rcases Dk.succ.1 hd with B|⟨m,B,C⟩
     ·exact .inl B
     ·have hm:=B.top hi;rcases(st1 m hm).1 B with E|E
      ·exact .inl (Dk.succ.2 (.inr ⟨m,(eo m hm).1 E,C⟩))
      ·exact .inr ⟨m,hm,E,C⟩
  ·have:k=more:=by omega
   subst this;exact AH ⟨h10,os,.inl rfl,l10,eo⟩
end
section
variable {c:Mk} {h h':AB}
theorem Pv(ok:c.Ok){n x:Nat}(G:∀i,i<=c.s.length->c.KR n x i){U:Nat->Prop}(hU:∀y,U y->y<h.size)(i0:(c.at U).I h){a:Nat}{nd:Nd}(hn:c.ns[a]?=some nd)(F:nd.k=4)(hxa:nd.a=x){i:Nat}(hi:i<=c.s.length):
  W ((Ld (n+2)).CB c.g h (some (c.m,0)) c.tree (HV nd) c.s (i:Int)) λr=>∃O os,r.1=⟨some (O,0),c.s.length+1⟩/\(c.at U).Loc O h r.2 os/\∀j,j<=c.s.length->(os[j]?=some true↔Mt c.ns c.s a 0 i j):=by
 show W (CX (Ld (n+1)) c.g h (some (c.m,0)) c.tree (HV nd) c.s (i:Int)) _;have hlen:=ok.len;have hfl:=ok.fl;have hlt:c.R<h.size:=i0.lt;obtain⟨_,_,_,_,_,_,_,hb4,_⟩:=ok.may a nd hn;obtain⟨m1,m2,m3,m4,m5⟩:=hb4 F;unfold CX;refine Dc rfl ?_;simp only[qW,Hc ok,xm];obtain⟨h1,e1⟩:∃h1,h1=h.push (.cells none 2 c.tree):=⟨_,rfl⟩;rw[<-e1];refine Dc rfl ?_;obtain⟨B,e2⟩:∃B,B=h1.push (.cells none 2 (HV nd)):=⟨_,rfl⟩;rw[<-e2,LR (by omega)];simp only[qW];obtain⟨C,e3⟩:∃C,C=B.push (.cells (some tB) 2 (E3 (List.replicate (c.s.length+1) false))):=⟨_,rfl⟩;rw[<-e3];have z1:h1.size=h.size+1:=by rw[e1];rfl
 have z2:B.size=h1.size+1:=by rw[e2];rfl
 have k1:DV none h h1:=by rw[e1];exact DV.push _ _ _
 have k2:DV none h1 B:=by rw[e2];exact DV.push _ _ _
 have k3:DV none B C:=by rw[e3];exact DV.push _ _ _
 have g1:h1.get h.size=some (.cells none 2 c.tree):=by rw[e1,AB.A8]
 have g2:B.get h1.size=some (.cells none 2 (HV nd)):=by rw[e2,AB.A8]
 have b3:Bo C B.size (List.replicate (c.s.length+1) false):=⟨by rw[e3,AB.A8]⟩;rw[Is (by omega) B.size];simp only[qW];obtain⟨E,es,b4,o4,z4⟩:=b3.st (g:=c.g) (Hq (show c.fl<=B.size by omega)) (i:=i) (by simp;omega) true;rw[es];simp only[qW];have g4t:E.get h.size=some (.cells none 2 c.tree):=o4.De (k3.De (k2.De g1 (by simp)) (by simp)) (by intro he;have:=qX he;omega);have g4n:E.get h1.size=some (.cells none 2 (HV nd)):=o4.De (k3.De g2 (by simp)) (by intro he;have:=qX he;omega);have k03:=(k1.trans k2).trans k3;have k4:DV none h E:=⟨by have:=k03.size;omega,λid hid _=>by rw[o4.get id (by have:=k03.size;omega) (by intro he;have:=qX he;omega),k03.get id hid (by simp)]⟩;have st4:(c.at U).Step h E:=Mk.Step.of i0 k4;refine AP (W.mono (Rv ok G hU (nd:=nd) hxa ⟨m1,m2⟩ hi rfl st4 g4t g4n rfl b4) ?_);rintro⟨_,T⟩ ⟨Y0,ws,rfl,lw,b7,s7,g7t,g7n,ew⟩;dsimp only at b7 s7 g7t g7n⊢;have z7:=s7.fix.size;have l8:=Mk.Loc.begin (ok.at U) s7;obtain⟨h8,e8⟩:∃h8,h8=T.push (.cells (some tB) 2 (E3 (List.replicate (c.s.length+1) false))):=⟨_,rfl⟩;have l8:(c.at U).Loc T.size h h8 (List.replicate (c.s.length+1) false):=by rw[e8];exact l8
 have k8:DV none T h8:=by rw[e8];exact DV.push _ _ _
 rw[<-e8];have zt:=T.Ar g7t;have zn:=T.Ar g7n;have zy:=T.Ar b7.get;have lz:(List.replicate (c.s.length+1) false).length=c.s.length+1:=by simp
 refine AP (W.mono (Mh (g:=c.g) (L:=c.s.length+1) l8.bo (Bo.mk (k8.De b7.get (by simp))) (Hq l8.fl) lz lw (by omega)) ?_);rintro⟨_,h9⟩ ⟨b9,o9⟩;dsimp only at b9 o9⊢;have l9:=l8.only o9 b9 (by rw[xz,xH]);generalize hE:((List.range (c.s.length+1)).map λi=>(List.replicate (c.s.length+1) false).getD i false||ws.getD i false)=os at l9;have ne:∀id,id<T.size->some id≠some T.size:=λid hid he=>by have:=qX he;omega
 have g9t:=o9.De (k8.De g7t (by simp)) (ne _ zt);have g9n:=o9.De (k8.De g7n (by simp)) (ne _ zn);have bw:Bo h9 Y0 ws:=⟨o9.De (k8.De b7.get (by simp)) (ne _ zy)⟩;have ew0:∀j,j<=c.s.length->(ws[j]?=some true↔Dk c.ns c.s x nd.mi.toNat i 0 j):=λj D=>by rw[ew j D,Dk.zero]
 have eo0:∀j,j<=c.s.length->(os[j]?=some true↔Dk c.ns c.s x nd.mi.toNat i 0 j):=λj D=>by
  rw[<-hE,OT (by omega) lz lw,ew0 j D];constructor
  ·rintro(B|B)
   ·have:=xh (xd B);cases this
   ·exact B
  ·exact .inr
 have l4:Me h9 (h1.size,4) .i64=some nd.ma:=I6 g9n (by simp) rfl;have l3:Me h9 (h1.size,3) .i64=some nd.mi:=I6 g9n (by simp) rfl;simp only[l4,l3,qW];obtain⟨x14,e14,hx14⟩:∃x14,(A3 (decide (nd.ma<(0:Int))) (some ((c.s.length+1:Nat):Int)) (some (i64.wrap (nd.ma - nd.mi))):Option Int)=some x14/\x14=if nd.ma<0 then((c.s.length+1:Nat):Int)else nd.ma - nd.mi:=by
  by_cases hneg:nd.ma<0
  ·exact⟨_,by rw[decide_eq_true hneg];rfl,by rw[xj hneg]⟩
  ·exact⟨_,by rw[decide_eq_false hneg];rfl,by rw[xg hneg,Qs (by omega) (by omega)]⟩
 rw[e14];simp only[qW];obtain⟨more,hm⟩:∃more:Nat,more=if nd.ma<0 then c.s.length+1 else min (nd.ma - nd.mi).toNat (c.s.length+1):=⟨_,rfl⟩
 have hmle:more<=c.s.length+1:=by rw[hm];split<;>omega
 have hmn:mn x14 ((c.s.length+1:Nat):Int)=(more:Int):=by
  unfold mn;rw[hx14,hm];by_cases hneg:nd.ma<0
  ·rw[xj hneg,xj hneg,xg (by omega)]
  ·have:=m5 (by omega);rw[xg hneg,xg hneg];split<;>omega
 refine AP (W.mono (SR ok G hU hxa hi hmle hmn lw bw l9 g9t g9n (by omega) (by omega) eo0 ew0) ?_);rintro o ⟨N,os',ho,lf,ef⟩;have fin:∀j,j<=c.s.length->(os'[j]?=some true↔Mt c.ns c.s a 0 i j):=λj D=>by
  rw[ef j D,Wl hn F hxa m1 (λh=>m5 h) D hm]
 rcases ho with rfl|rfl
 ·exact AH ⟨T.size,os',rfl,lf,fin⟩
 ·exact AH ⟨T.size,os',rfl,lf,fin⟩
end
section
variable {c:Mk} {h h':AB}
theorem Mk.I.place(i0:c.I h){a:Nat}(k:c.Has h a){p:Nat}(hp:p<=c.s.length):∃X q,Jw h (c.R,a)=some ⟨some (X,0),c.s.length+1⟩/\H0 (⟨some (X,0),c.s.length+1⟩:Sl) 1 (p:Int)=some (X,p)/\Jw h (X,p)=some q/\(q=(⟨none,0⟩:Sl)\/c.GD h a p q):=by
 obtain⟨X,qs,hX,hfl,hg,hq,hall⟩:=k.row i0;have G:qs[p]?=some qs[p]:=List.getElem?_eq_getElem (by omega);exact⟨X,qs[p],hX,Is (by omega) X,Hm hg (by simp) (Hv G),hall p _ G⟩
theorem Mk.Loc.put(ok:c.Ok){O:Nat}{M:AB}{os:List Bool}(l:c.Loc O M h os)(hU:∀y,c.U y->y<M.size){a p:Nat}(hs:c.Has h a)(hp:p<=c.s.length)(J:∀j,j<=c.s.length->(os[j]?=some true↔Mt c.ns c.s a 0 p j)):
  ∃X h',Jw h (c.R,a)=some ⟨some (X,0),c.s.length+1⟩/\H0 (⟨some (X,0),c.s.length+1⟩:Sl) 1 (p:Int)=some (X,p)/\st c.g h (X,p) [.slice (some (O,0)) (c.s.length+1)]=some h'/\c.GD h' a p ⟨some (O,0),c.s.length+1⟩/\c.Step M h':=by
 have e:c.GD h a p ⟨some (O,0),c.s.length+1⟩:=⟨O,os,rfl,l.ln,l.bo,λhu=>by have:=hU O hu;have:=l.new;omega,J⟩;obtain⟨X,h',h1,B,C,E⟩:=l.inv.PH.put ok hs hp e;exact⟨X,h',h1,B,C,e.fix E.fix,l.step.trans E⟩
end
section
variable {c:Mk} {h h':AB}
theorem Mk.Loc.one(ok:c.Ok){O:Nat}{M:AB}(l:c.Loc O M h (List.replicate (c.s.length+1) false)){p:Nat}(hp:p<=c.s.length)(v:Bool):∃h',st c.g h (O,p) [.bool v]=some h'/\(∀a,c.Has h a->c.Has h' a)/\c.Loc O M h' ((List.replicate (c.s.length+1) false).set p v)/\∀j,(((List.replicate (c.s.length+1) false).set p v)[j]?=some true↔j=p/\v=true):=by
 obtain⟨h',es,b,o,z⟩:=l.bo.st (g:=c.g) (Hq l.fl) (i:=p) (by simp;omega) v;refine⟨h',es,(l.inv.only (.inr rfl) l.bo o).2,l.only o b (by simp),λj=>?_⟩;by_cases D:p=j
 ·subst D;rw[List.getElem?_set_self (by simp;omega)];simp
 ·rw[List.getElem?_set_ne D];constructor
  ·intro h1;have:=xh (xd h1);cases this
  ·rintro⟨rfl,_⟩;exact absurd rfl D
theorem Mk.Loc.add(ok:c.Ok){O:Nat}{M:AB}{os:List Bool}(l:c.Loc O M h os){Q:Nat}{qs:List Bool}(bq:Bo h Q qs)(lq:qs.length=c.s.length+1):W (Be c.g h ⟨some (O,0),c.s.length+1⟩ ⟨some (Q,0),c.s.length+1⟩) λr=>∃es,c.Loc O M r.2 es/\DV (some O) h r.2/\(∀a,c.Has h a->c.Has r.2 a)/\∀j,j<=c.s.length->(es[j]?=some true↔os[j]?=some true\/qs[j]?=some true):=by
 have hlen:=ok.len;have lo:os.length=c.s.length+1:=l.ln;refine W.mono (Mh (g:=c.g) (L:=c.s.length+1) l.bo bq (Hq l.fl) lo lq (by omega)) ?_;rintro⟨_,B⟩ ⟨b2,o2⟩;exact⟨_,l.only o2 b2 (by rw[xz,xH]),o2,(l.inv.only (.inr rfl) l.bo o2).2,λj D=>OT (by omega) lo lq⟩
end
section
variable {c:Mk} {h h':AB}
theorem RC{n:Nat}(h:n<=1000000):OC 24 [.slice none 0] (n:Int) (n:Int)=some (List.replicate n (.slice none 0)):=by
 unfold OC;rw[xj (by omega),xm,KU]
theorem RT(ok:c.Ok)(i0:c.I h){a:Nat}(ha:a<c.ns.length):
  W (((some (c.m,0):Option (Nat×Nat))).bind λa1=>(Jw h (a1.1,a1.2+0)).bind λx1=>(H0 x1 1 (a:Int)).bind λa2=>(Jw h (a2.1,a2.2)).bind λx2=>A3 x2.r.isNone ((some (c.m,0)).bind λa3=>(Jw h (a3.1,a3.2+0)).bind λx3=>(OC 24 [.slice none 0] (i64.wrap ((c.s.length:Int)+(1:Int))) (i64.wrap ((c.s.length:Int)+(1:Int)))).bind λx4=>(some (h.push (.cells (some tR) 2 x4))).bind λB=>(H0 x3 1 (a:Int)).bind λa4=>(st c.g B (a4.1,a4.2) [.slice (some (h.size,0)) ((i64.wrap ((c.s.length:Int)+(1:Int))).toNat)]).bind λC=>some C) (some h):Option AB)
   λE=>c.Step h E/\c.Has E a:=by
 have hlen:=ok.len;have hfl:=ok.fl;have hlt:=i0.lt;obtain⟨r,e1,e2,e3,hr⟩:=i0.look ha;simp only[qW,Hc ok,xm];rw[e1];simp only[qW];rw[e2];simp only[qW];rw[e3];simp only[qW];rcases hr with rfl|⟨X,qs,rfl,_,hg,_,_⟩
 ·rw[show((⟨none,0⟩:Sl).r.isNone)=true from rfl];simp only[BU];rw[RC (by omega)];simp only[qW];obtain⟨B,C,eh2,es,st3,hs⟩:=i0.make ok ha (by omega);rw[<-eh2,es];exact AH ⟨st3,hs⟩
 ·rw[show((⟨some (X,0),c.s.length+1⟩:Sl).r.isNone)=false from rfl];simp only[Aq];exact AH ⟨Mk.Step.of i0 (DV.refl _ _),X,e3⟩
end
section
section
variable {ns:List Nd} {s:List UInt8} {a:Nat} {nd:Nd} {t:Int} {i j:Nat}
theorem Yg(G:ns[a]?=some nd)(F:nd.k=0):Mt ns s a t i j↔j=i:=by
 constructor
 ·intro m;cases m<;>simp_all
 ·rintro rfl;exact .empty G F
theorem Xd(G:ns[a]?=some nd)(F:nd.k=6):Mt ns s a t i j↔i=0/\j=0:=by
 constructor
 ·intro m;cases m<;>simp_all
 ·rintro⟨rfl,rfl⟩;exact .front G F
theorem Xt(G:ns[a]?=some nd)(F:nd.k=7):Mt ns s a t i j↔i=s.length/\j=s.length:=by
 constructor
 ·intro m;cases m<;>simp_all
 ·rintro⟨rfl,rfl⟩;exact .back G F
theorem inv1(G:ns[a]?=some nd)(F:nd.k=1):Mt ns s a t i j↔j=i+1/\∃b,s[i]?=some b/\hasB nd b.toNat=true:=by
 constructor
 ·intro m;cases m<;>simp_all
 ·rintro⟨rfl,b,h1,B⟩;exact .one G F h1 B
theorem Yq{x y:Nat}(G:ns[a]?=some nd)(F:nd.k=3)(ha:nd.a=x)(J:nd.b=y):Mt ns s a t i j↔Mt ns s x 0 i j\/Mt ns s y 0 i j:=by
 constructor
 ·intro m;cases m with
  |UN h k e m=>rw[G]at h;cases h;rw[ha]at e;cases Int.ofNat.inj e;exact .inl m
  |UK h k e m=>rw[G]at h;cases h;rw[J]at e;cases Int.ofNat.inj e;exact .inr m
  |_=>simp_all
 ·rintro(m|m)
  ·exact .UN G F ha m
  ·exact .UK G F J m
theorem XR{x:Nat}(G:ns[a]?=some nd)(F:nd.k=5)(ha:nd.a=x):Mt ns s a t i j↔Mt ns s x 0 i j:=by
 constructor
 ·intro m;cases m with
  |group h k e m=>rw[G]at h;cases h;rw[ha]at e;cases Int.ofNat.inj e;exact m
  |_=>simp_all
 ·exact λm=>.group G F ha m
theorem inv2{x y:Nat}(G:ns[a]?=some nd)(F:nd.k=2)(ha:nd.a=x)(J:nd.b=y):Mt ns s a t i j↔∃k,Mt ns s x 0 i k/\Mt ns s y 0 k j:=by
 constructor
 ·intro m;cases m with
  |cat h k e1 e2 m1 m2=>rw[G]at h;cases h;rw[ha]at e1;rw[J]at e2;cases Int.ofNat.inj e1;cases Int.ofNat.inj e2;exact⟨_,m1,m2⟩
  |_=>simp_all
 ·rintro⟨k,m1,m2⟩;exact .cat G F ha J m1 m2
end
end
section
variable {c:Mk} {h h':AB}
theorem Ru(ok:c.Ok)(a:Nat):a<c.ns.length->∀n,3*(a+1)<=n->∀i,i<=c.s.length->c.KR n a i:=by
 induction a using Nat.strongRecOn with
 |ind a IH=>
 intro ha n hn i hi U h hU i0;have hlen:=ok.len;have hfl:=ok.fl;have hlt:c.R<h.size:=i0.lt;obtain⟨n',rfl⟩:∃n',n=n'+3:=⟨n - 3,by omega⟩;show W (Cu (Ld (n'+2)) c.g h (some (c.m,0)) c.tree (a:Int) c.s (i:Int)) _;unfold Cu;refine Dc rfl (AP (AH ?_));have k1:DV none h (h.push (.cells none 2 c.tree)):=DV.push _ _ _;have g1:(h.push (.cells none 2 c.tree)).get h.size=some (.cells none 2 c.tree):=AB.A8 _ _;have s1:=Mk.Step.of i0 k1;refine AP (W.mono (RT (ok.at U) s1.inv ha) ?_);rintro E ⟨s4,has4⟩;have s04:=s1.trans s4;have g4t:=s4.fix.get _ _ g1 (Du _ _);obtain⟨X,q,eX,eix,eq,hq⟩:=s4.inv.place has4 hi;obtain⟨r,f1,f2,_,_⟩:=s4.inv.look ha;have f1:Jw E (c.m,0+0)=some ⟨some (c.R,0),c.ns.length⟩:=f1;have f2:H0 (⟨some (c.R,0),c.ns.length⟩:Sl) 1 (a:Int)=some (c.R,a):=f2;have eX:Jw E (c.R,a)=some ⟨some (X,0),c.s.length+1⟩:=eX;have eix:H0 (⟨some (X,0),c.s.length+1⟩:Sl) 1 (i:Int)=some (X,i):=eix;simp only[qW,f1,f2,eX,eix,eq];refine Bd (λhsome=>?_) (λhnone=>?_)
 ·rcases hq with rfl|hq
  ·cases hsome
  ·exact AH ⟨hq,s04⟩
 ·obtain⟨nd,end_⟩:∃nd,c.ns[a]=nd:=⟨_,rfl⟩;have G:c.ns[a]?=some nd:=by rw[List.getElem?_eq_getElem ha,end_]
  have l4:Jw E (h.size,0)=some c.sl:=Hm g4t (by simp) rfl;obtain⟨b,eb,_,lb⟩:=(s4.inv.own.view (P:=cfg.P) (S:=(·<E.size)) λid hid=>s4.inv.own.lt hid).aT (i:=a) (by have:=s4.inv.own.1;rw[Hy LP]at this;show a<c.sl.n;have:c.ns.length*7=c.sl.n*7:=this;omega);have lb:Gp E (b.1,b.2) 7=some (HV nd):=by rw[lb];congr 1;exact P2 LP G
  have eb:H0 c.sl 7 (a:Int)=some b:=eb;have z04:=s04.fix.size;obtain⟨H,e6,g6,k6,z6⟩:=SQ (h:=E) (g:=c.g) (z:=[.int .i64 (0:Int),.int .i64 (0:Int),.int .i64 (0:Int),.int .i64 (0:Int),.int .i64 (0:Int),.int .i64 (0:Int),.str ([]:List UInt8)]) (cs:=HV nd) (n:=7) (Hq (by omega)) rfl rfl rfl;simp only[l4,eb,lb,e6,Hc ok,xm,LR (show c.s.length+1<=1099511627776 by omega),qW];have s46:=Mk.Step.of s4.inv k6;have s06:=s04.trans s46;have l7:=Mk.Loc.begin (ok.at U) s06;obtain⟨T,e7⟩:∃T,T=H.push (.cells (some tB) 2 (E3 (List.replicate (c.s.length+1) false))):=⟨_,rfl⟩;have l7:(c.at U).Loc H.size h T (List.replicate (c.s.length+1) false):=by rw[e7];exact l7
  have k67:DV none H T:=by rw[e7];exact DV.push _ _ _
  rw[<-e7];have g7n:T.get E.size=some (.cells none 2 (HV nd)):=k67.De g6 (by simp);have g7t:T.get h.size=some (.cells none 2 c.tree):=k67.De (k6.De g4t (by simp)) (by simp);have has7:c.Has T a:=by
   have:=(Mk.Step.of s46.inv k67).has a (s46.has a has4);exact this
  refine AP (W.mono (Q:=λN=>∃os,(c.at U).Loc H.size h N os/\c.Has N a/\∀j,j<=c.s.length->(os[j]?=some true↔Mt c.ns c.s a 0 i j)) ?_ ?_)
  ·obtain⟨m1,m2,m3,m4,m5,m6,m7,m8,m9,m10,m11⟩:=ok.may a nd G;have l0:Me T (E.size,0) .i64=some nd.k:=I6 g7n (by simp) rfl;have l1:Me T (E.size,1) .i64=some nd.a:=I6 g7n (by simp) rfl;have l2:Me T (E.size,2) .i64=some nd.b:=I6 g7n (by simp) rfl;have l6:X2 T (E.size,6)=some (HQ nd):=Wq g7n (by simp) rfl;have lT:Gp T (h.size,0) 2=some c.tree:=by rw[Jr g7t (by simp) (xe 2)];rfl
   have lN:Gp T (E.size,0) 7=some (HV nd):=by rw[Jr g7n (by simp) (xe 7)];rfl
   rw[l0];simp only[qW];have hU7:∀y,(U y\/y=H.size)->y<T.size:=by
    intro y hy;have hz:=l7.fix.size;have hz2:=T.Ar l7.bo.get;rcases hy with hy|hy
    ·have:=hU y hy;omega
    ·omega
   have hasU:∀{N},(∀b,c.Has T b->c.Has N b)->c.Has N a:=λk=>k a has7;have child:∀{N:AB} {os:List Bool},(c.at U).Loc H.size h N os->∀x:Nat,x<a->∀p,p<=c.s.length->W ((Ld (n'+2)).A5 c.g N (some (c.m,0)) c.tree (x:Int) c.s (p:Int)) λr=>∃Q qs,r.1=⟨some (Q,0),c.s.length+1⟩/\qs.length=c.s.length+1/\Bo r.2 Q qs/\(∀j,j<=c.s.length->(qs[j]?=some true↔Mt c.ns c.s x 0 p j))/\(c.at U).Loc H.size h r.2 os/\Fix N r.2/\(∀b,c.Has N b->c.Has r.2 b)/\Q≠H.size:=by
    intro N os l x hxa p hp;refine W.mono (IH x hxa (by omega) (n'+2) (by omega) p hp (λy=>U y\/y=H.size) N ?_ l.inv) ?_
    ·intro y hy;have hz:=l.fix.size;have hz2:=N.Ar l.bo.get;rcases hy with hy|hy
     ·have:=hU y hy;omega
     ·omega
    ·rintro r ⟨⟨Q,qs,e,lq,bq,nU,hq⟩,st⟩;exact⟨Q,qs,e,lq,bq,hq,l.call st,st.fix,st.has,λh=>nU (.inr h)⟩
   have hkk:nd.k=0\/nd.k=1\/nd.k=2\/nd.k=3\/nd.k=4\/nd.k=5\/nd.k=6\/nd.k=7:=by omega
   rcases hkk with F|F|F|F|F|F|F|F
   ·rw[F];simp only[show((0:Int)==0)=true from rfl,BU];rw[Is (by omega) H.size];simp only[qW];obtain⟨h8,es,hs8,l8,b8⟩:=l7.one (ok.at U) (p:=i) hi true;have es:st c.g T (H.size,i) [.bool true]=some h8:=es;rw[es];simp only[qW];refine AH ⟨_,l8,hasU hs8,λj D=>?_⟩
    ·rw[Yg G F];exact(b8 j).trans ⟨λh=>h.1,λh=>⟨h,rfl⟩⟩
   ·rw[F];simp only[show((1:Int)==0)=false from rfl,show((1:Int)==1)=true from rfl,BU,Aq];have none_:(∀j,¬Mt c.ns c.s a 0 i j)->∃os,(c.at U).Loc H.size h T os/\c.Has T a/\∀j,j<=c.s.length->(os[j]?=some true↔Mt c.ns c.s a 0 i j):=λhno=>⟨_,l7,has7,λj D=>Iff.intro (λh1=>by have:=xh (xd h1);cases this) (λm=>(hno j m).elim)⟩;by_cases hil:i<c.s.length
    ·obtain⟨b,eb⟩:∃b,c.s[i]?=some b:=⟨_,List.getElem?_eq_getElem hil⟩;rw[decide_eq_true (show(i:Int)<(c.s.length:Int) by omega)];simp only[BU];rw[Mm eb];simp only[qW,l6];rw[Xo T nd (ok.set a nd G) b.toNat_lt];simp only[qW];refine Bd (λJ=>?_) (λJ=>AH (none_ λj m=>?_))
     ·rw[G4 (by omega),Is (by omega) H.size];simp only[qW];obtain⟨h8,es,hs8,l8,b8⟩:=l7.one (ok.at U) (p:=i+1) (show i+1<=c.s.length by omega) true;have es:st c.g T (H.size,i+1) [.bool true]=some h8:=es;rw[es];simp only[qW];refine AH ⟨_,l8,hasU hs8,λj D=>?_⟩;rw[inv1 G F];exact(b8 j).trans ⟨λh=>⟨h.1,b,eb,J⟩,λh=>⟨h.1,rfl⟩⟩
     ·obtain⟨_,b',eb',hb'⟩:=(inv1 G F).1 m;rw[eb]at eb';cases eb';rw[J]at hb';cases hb'
    ·rw[decide_eq_false (show ¬(i:Int)<(c.s.length:Int) by omega)];simp only[Aq,qW];refine AH (none_ λj m=>?_);obtain⟨_,b',eb',_⟩:=(inv1 G F).1 m;have:=(List.getElem?_eq_some_iff.1 eb').1;omega
   ·rw [F];simp only[show((2:Int)==0)=false from rfl,show((2:Int)==1)=false from rfl,show((2:Int)==2)=true from rfl,BU,Aq];rw[lT];simp only[qW];rw[l1];simp only[qW];have hA:=m3 (by omega);have hB:=m5 (by omega);obtain⟨x,hxa⟩:∃x:Nat,nd.a=x:=⟨nd.a.toNat,by omega⟩;obtain⟨y,hyb⟩:∃y:Nat,nd.b=y:=⟨nd.b.toNat,by omega⟩;rw[hxa];refine AP (W.mono (child l7 x (by omega) i hi) ?_);rintro⟨_,h10⟩ ⟨Q,qs,rfl,lq,bq,hq,l10,f10,hs10,hQO⟩;dsimp only at bq l10 f10 hs10⊢;have zt:=E.Ar g4t;have zO:=l10.new;have g10t:=f10.get _ _ g7t (Du _ _);have g10n:=f10.get _ _ g7n (Du _ _)
    refine AP (W.mono (W.loop (λst=>∃(k:Nat) (os:List Bool),st.1=k/\i<=k/\k<=c.s.length+1/\(c.at U).Loc H.size h st.2 os/\Bo st.2 Q qs/\st.2.get h.size=some (.cells none 2 c.tree)/\st.2.get E.size=some (.cells none 2 (HV nd))/\c.Has st.2 a/\∀j,j<=c.s.length->(os[j]?=some true↔∃q,i<=q/\q<k/\qs[q]?=some true/\Mt c.ns c.s y 0 q j)) (λst=>c.s.length+1 - st.1.toNat)
     ⟨i,_,rfl,xe _,by omega,l10,bq,g10t,g10n,hs10 a has7,λj D=>Iff.intro (λh1=>by have:=xh (xd h1);cases this) (λh=>by obtain⟨q,h1,B,_⟩:=h;omega)⟩ ?_ (Q:=λN=>∃os,(c.at U).Loc H.size h N os/\c.Has N a/\∀j,j<=c.s.length->(os[j]?=some true↔∃q,i<=q/\q<c.s.length+1/\qs[q]?=some true/\Mt c.ns c.s y 0 q j))) ?_)
    ·rintro⟨_,h11⟩ ⟨k,os,rfl,hik,hk1,l,bq1,gt1,gn1,hs1,bits⟩;dsimp only at l bq1 gt1 gn1 hs1;unfold D9;dsimp only;simp only[Hc ok,xm];refine Bq (λhle=>?_) (λhgt=>?_)
     ·have hle:k<=c.s.length:=by omega
      have fk:qs[k]?=some (qs.getD k false):=by rw[xb,List.getElem?_eq_getElem (by omega)];rfl
      rw[Is (by omega) Q];simp only[qW,bq1.ld fk];cases J:qs.getD k false
      ·rw[J]at fk;simp only[Aq,qW];rw[G4 (by omega)];refine AH ⟨⟨k+1,os,rfl,by omega,by omega,l,bq1,gt1,gn1,hs1,λj D=>?_⟩,by dsimp only;omega⟩;rw[bits j D];constructor
       ·rintro⟨q,h1,B,C⟩;exact⟨q,h1,by omega,C⟩
       ·rintro⟨q,h1,B,C,K⟩;refine⟨q,h1,?_,C,K⟩;by_cases hqk:q=k
        ·subst hqk;rw[fk]at C;cases C
        ·omega
      ·rw[J]at fk;simp only[BU];have lT2:Gp h11 (h.size,0) 2=some c.tree:=by rw[Jr gt1 (by simp) (xe 2)];rfl
       have lb2:Me h11 (E.size,2) .i64=some nd.b:=I6 gn1 (by simp) rfl;rw[lT2];simp only[qW];rw[lb2];simp only[qW];rw[hyb];refine AP (AP (W.mono (child l y (by omega) k hle) ?_));rintro⟨_,h12⟩ ⟨P,ps,rfl,lp,bp,hp,l12,f12,hs12,hPO⟩;dsimp only at bp l12 f12 hs12⊢;refine AP (W.mono (l12.add (ok.at U) bp lp) ?_);rintro⟨_,h13⟩ ⟨es,l13,o13,hs13,he⟩;dsimp only at l13 o13 hs13 he⊢;refine AH ?_;rw[G4 (by omega)];refine AH ⟨⟨k+1,es,rfl,by omega,by omega,l13,⟨o13.De (f12.bo bq1).get (by intro he;exact hQO (qX he))⟩,o13.De (f12.get _ _ gt1 (Du _ _)) (by intro he;have:=qX he;omega),o13.De (f12.get _ _ gn1 (Du _ _)) (by intro he;have:=qX he;omega),hs13 a (hs12 a hs1),λj D=>?_⟩,by dsimp only;omega⟩;refine(he j D).trans ?_;rw[bits j D,hp j D];constructor
       ·rintro(⟨q,h1,B,C⟩|C)
        ·exact⟨q,h1,by omega,C⟩
        ·exact⟨k,hik,by omega,fk,C⟩
       ·rintro⟨q,h1,B,C,K⟩;by_cases hqk:q=k
        ·subst hqk;exact .inr K
        ·exact .inl ⟨q,h1,by omega,C,K⟩
     ·have:k=c.s.length+1:=by omega
      subst this;exact AH ⟨os,l,hs1,bits⟩
    ·rintro N ⟨os,l,hs,J⟩;refine AH ⟨os,l,hs,λj D=>?_⟩;rw[inv2 G F hxa hyb,J j D];constructor
     ·rintro⟨q,h1,B,C,K⟩;exact⟨q,(hq q (by omega)).1 C,K⟩
     ·rintro⟨q,h1,B⟩;have e1:=h1.le;have e2:=B.le;exact⟨q,e1,by omega,(hq q (by omega)).2 h1,B⟩
   ·rw[F];simp only[show((3:Int)==0)=false from rfl,show((3:Int)==1)=false from rfl,show((3:Int)==2)=false from rfl,show((3:Int)==3)=true from rfl,BU,Aq];rw[lT];simp only[qW];rw[l1];simp only[qW];have hA:=m3 (by omega);have hB:=m5 (by omega);obtain⟨x,hxa⟩:∃x:Nat,nd.a=x:=⟨nd.a.toNat,by omega⟩;obtain⟨y,hyb⟩:∃y:Nat,nd.b=y:=⟨nd.b.toNat,by omega⟩;rw[hxa];refine AP (W.mono (child l7 x (by omega) i hi) ?_);rintro⟨_,h16⟩ ⟨Q,qs,rfl,lq,bq,hq,l16,f16,hs16,_⟩;dsimp only at bq l16 f16 hs16⊢;refine AP (W.mono (l16.add (ok.at U) bq lq) ?_);rintro⟨_,h17⟩ ⟨es,l17,o17,hs17,he⟩;dsimp only at l17 o17 hs17 he⊢;have zt:=E.Ar g4t;have g17t:h17.get h.size=some (.cells none 2 c.tree):=o17.De (f16.get _ _ g7t (Du _ _)) (by intro he;have:=qX he;omega);have g17n:h17.get E.size=some (.cells none 2 (HV nd)):=o17.De (f16.get _ _ g7n (Du _ _)) (by intro he;have:=qX he;omega);have lT2:Gp h17 (h.size,0) 2=some c.tree:=by rw[Jr g17t (by simp) (xe 2)];rfl
    have lb2:Me h17 (E.size,2) .i64=some nd.b:=I6 g17n (by simp) rfl;rw[lT2];simp only[qW];rw[lb2];simp only[qW];rw[hyb];refine AP (W.mono (child l17 y (by omega) i hi) ?_);rintro⟨_,h18⟩ ⟨P,ps,rfl,lp,bp,hp,l18,f18,hs18,_⟩;dsimp only at bp l18 f18 hs18⊢;refine AP (W.mono (l18.add (ok.at U) bp lp) ?_);rintro⟨_,h19⟩ ⟨fs,l19,o19,hs19,hf⟩;dsimp only at l19 o19 hs19 hf⊢;refine AH ⟨fs,l19,hs19 a (hs18 a (hs17 a (hs16 a has7))),λj D=>?_⟩;rw[Yq G F hxa hyb,<-hq j D,<-hp j D];have e1:=he j D;have e2:=hf j D;have e3:¬(List.replicate (c.s.length+1) false)[j]?=some true:=λh=>by have:=xh (xd h);cases this
    rw[e2,e1];constructor
    ·rintro((h|h)|h)
     ·exact(e3 h).elim
     ·exact .inl h
     ·exact .inr h
    ·rintro(h|h)
     ·exact .inl (.inr h)
     ·exact .inr h
   ·rw[F];simp only[show((4:Int)==0)=false from rfl,show((4:Int)==1)=false from rfl,show((4:Int)==2)=false from rfl,show((4:Int)==3)=false from rfl,show((4:Int)==4)=true from rfl,BU,Aq];rw[lT];simp only[qW];rw[lN];simp only[qW];have hA:=m3 (by omega);obtain⟨x,hxa⟩:∃x:Nat,nd.a=x:=⟨nd.a.toNat,by omega⟩;refine AP (W.mono (Pv ok (n:=n') (x:=x) (λp hp=>IH x (by omega) (by omega) n' (by omega) p hp) hU7 l7.inv G F hxa hi) ?_);rintro⟨_,h20⟩ ⟨Q,qs,rfl,lQ,hq⟩;dsimp only at lQ⊢;have lO:=l7.call lQ.step;refine AP (W.mono (lO.add (ok.at U) lQ.bo lQ.ln) ?_);rintro⟨_,h21⟩ ⟨es,l21,_,hs21,he⟩;dsimp only at l21 hs21 he⊢;refine AH ⟨es,l21,hs21 a (lQ.has a has7),λj D=>?_⟩;rw[<-hq j D];refine(he j D).trans ⟨λh=>?_,.inr⟩;rcases h with h|h
    ·have:=xh (xd h);cases this
    ·exact h
   ·rw[F];simp only[show((5:Int)==0)=false from rfl,show((5:Int)==1)=false from rfl,show((5:Int)==2)=false from rfl,show((5:Int)==3)=false from rfl,show((5:Int)==4)=false from rfl,show((5:Int)==5)=true from rfl,BU,Aq];rw[lT];simp only[qW];rw[l1];simp only[qW];have hA:=m3 (by omega);obtain⟨x,hxa⟩:∃x:Nat,nd.a=x:=⟨nd.a.toNat,by omega⟩;rw[hxa];refine AP (W.mono (child l7 x (by omega) i hi) ?_);rintro⟨_,h22⟩ ⟨Q,qs,rfl,lq,bq,hq,l22,_,hs22,_⟩;dsimp only at bq l22 hs22⊢;refine AP (W.mono (l22.add (ok.at U) bq lq) ?_);rintro⟨_,h23⟩ ⟨es,l23,_,hs23,he⟩;dsimp only at l23 hs23 he⊢;refine AH ⟨es,l23,hs23 a (hs22 a has7),λj D=>?_⟩;rw[XR G F hxa,<-hq j D];refine(he j D).trans ⟨λh=>?_,.inr⟩;rcases h with h|h
    ·have:=xh (xd h);cases this
    ·exact h
   ·rw[F];simp only[show((6:Int)==0)=false from rfl,show((6:Int)==1)=false from rfl,show((6:Int)==2)=false from rfl,show((6:Int)==3)=false from rfl,show((6:Int)==4)=false from rfl,show((6:Int)==5)=false from rfl,show((6:Int)==6)=true from rfl,BU,Aq];rw[Is (by omega) H.size];simp only[qW];obtain⟨h8,es,hs8,l8,b8⟩:=l7.one (ok.at U) (p:=i) hi ((i:Int)==(0:Int));have es:st c.g T (H.size,i) [.bool ((i:Int)==(0:Int))]=some h8:=es;rw[es];simp only[qW];refine AH ⟨_,l8,hasU hs8,λj D=>?_⟩;rw[Xd G F];refine(b8 j).trans ?_;simp only[xO];omega
   ·rw[F];simp only[show((7:Int)==0)=false from rfl,show((7:Int)==1)=false from rfl,show((7:Int)==2)=false from rfl,show((7:Int)==3)=false from rfl,show((7:Int)==4)=false from rfl,show((7:Int)==5)=false from rfl,show((7:Int)==6)=false from rfl,show((7:Int)==7)=true from rfl,BU,Aq];rw[Is (by omega) H.size];simp only[qW];obtain⟨h8,es,hs8,l8,b8⟩:=l7.one (ok.at U) (p:=i) hi ((i:Int)==(c.s.length:Int));have es:st c.g T (H.size,i) [.bool ((i:Int)==(c.s.length:Int))]=some h8:=es;rw[es];simp only[qW];refine AH ⟨_,l8,hasU hs8,λj D=>?_⟩;rw[Xt G F];refine(b8 j).trans ?_;simp only[xO];omega
  ·rintro N ⟨os,l,hs,J⟩;obtain⟨X',h',p1,p2,p3,p4,p5⟩:=l.put (ok.at U) hU hs hi J;obtain⟨r',q1,q2,_,_⟩:=l.inv.PH.look ha;have q1:Jw N (c.m,0+0)=some ⟨some (c.R,0),c.ns.length⟩:=q1;have q2:H0 (⟨some (c.R,0),c.ns.length⟩:Sl) 1 (a:Int)=some (c.R,a):=q2;have p1:Jw N (c.R,a)=some ⟨some (X',0),c.s.length+1⟩:=p1;have p2:H0 (⟨some (X',0),c.s.length+1⟩:Sl) 1 (i:Int)=some (X',i):=p2;have p3:st c.g N (X',i) [.slice (some (H.size,0)) (c.s.length+1)]=some h':=p3;simp only[qW,q1,q2,p1,p2,p3];exact AH ⟨p4,p5⟩
end
section
theorem U2{g:Gd}{h:AB}{O Y L:Nat}{bs zs:List Bool}(bo:Bo h O zs)(bY:Bo h Y bs)(hm:g.may O=true)(lz:zs.length=L)(lb:bs.length=L)(hL:0<L):
  ∃h',Ve 1 g h ⟨some (O,0),L⟩ L (.slice (some (Y,0)) L)=some ((L:Int),h')/\Bo h' O bs:=by
 have e1:Bv h 1 (min L L) (.slice (some (Y,0)) L)=some (E3 bs):=by
  unfold Abs.Bv;simp only[Nat.min_self];rw[xg (by omega),bY.get,Ky (by simp) (by simp;omega),wz,xG (by simp;omega)]
 have e2:BN g h O 0 (E3 bs)=some (h.set O (.cells (some tB) 2 (CN (E3 zs) 0 (E3 bs)))):=Qm (g:=g) bo.get (o:=0) hm (by simp;omega) (R7 bs);refine⟨h.set O (.cells (some tB) 2 (E3 bs)),?_,⟨by rw[AB.B0 _ _ (h.Ar bo.get)]⟩⟩;unfold Ve;simp only;rw[e1];simp only[Nat.min_self];rw[xg (by omega),e2,Nf (by simp;omega)];rfl
theorem Od{s:List UInt8}{f:Nat}{h:AB}{sl:Sl}{ns:List Nd}{root:Int}(o:Nj h 7 sl (ns.flatMap HV))(hf:f<=h.size)(hs:s.length<=1000)(hc:ns.length<=1024)(may:∀(i:Nat) n,ns[i]?=some n->Uy n i)(oks:∀n∈ns,YF n){a i:Nat}(ha:a<ns.length)(hi:i<=s.length):
  W (Ex ⟨f,[]⟩ h [sl.v,.int .i64 root] (a:Int) s (i:Int)) λr=>∃O bs,r.1=⟨some (O,0),s.length+1⟩/\bs.length=s.length+1/\Bo r.2 O bs/\∀j,j<=s.length->(bs[j]?=some true↔Mt ns s a 0 i j):=by
 have nl:sl.n=ns.length:=by have:=o.1;rw[Hy LP]at this;omega
 unfold Ex;refine Dc rfl ?_;simp only[qW];obtain⟨h1,e1⟩:∃h1,h1=h.push (.cells none 2 [sl.v,.int .i64 root]):=⟨_,rfl⟩;rw[<-e1];have z1:h1.size=h.size+1:=by rw[e1];rfl
 have k1:DV none h h1:=by rw[e1];exact DV.push _ _ _
 have g1:h1.get h.size=some (.cells none 2 [sl.v,.int .i64 root]):=by rw[e1,AB.A8]
 have l1:Jw h1 (h.size,0)=some sl:=Hm g1 (by simp) rfl;rw[l1];simp only[qW,nl,xm];rw[RC (by omega)];simp only[qW];obtain⟨B,e2⟩:∃B,B=h1.push (.cells (some tM) 2 (List.replicate ns.length (.slice none 0))):=⟨_,rfl⟩;rw[<-e2];have z2:B.size=h1.size+1:=by rw[e2];rfl
 have k2:DV none h1 B:=by rw[e2];exact DV.push _ _ _
 have g2:B.get h1.size=some (.cells (some tM) 2 (List.replicate ns.length (.slice none 0))):=by rw[e2,AB.A8]
 obtain⟨E,e4,g4,k4,z4⟩:=SQ (h:=B) (g:=⟨f,[]⟩) (z:=[.slice none 0]) (cs:=[.slice (some (h1.size,0)) ns.length]) (n:=1) (Hq (by omega)) rfl rfl rfl;rw[e4];simp only[qW];have wl:i64.wrap ((s.length:Int)+1)=((s.length+1:Nat):Int):=G4 (by omega);simp only[wl,xm];rw[LR (by omega)];simp only[qW];obtain⟨K,e5⟩:∃K,K=E.push (.cells (some tB) 2 (E3 (List.replicate (s.length+1) false))):=⟨_,rfl⟩;rw[<-e5];have z5:K.size=E.size+1:=by rw[e5];rfl
 have k5:DV none E K:=by rw[e5];exact DV.push _ _ _
 have b5:Bo K E.size (List.replicate (s.length+1) false):=⟨by rw[e5,AB.A8]⟩;have k15:=(k2.trans k4).trans k5;have g5:=k15.De g1 (by simp);have l5:Gp K (h.size,0) 2=some [sl.v,.int .i64 root]:=by rw[Jr g5 (by simp) (xe 2)];rfl
 rw[l5];simp only[qW]
 let c:Mk:=⟨f,B.size,h1.size,sl,root,ns,s,λ_=>False⟩
 have ok:c.Ok:=⟨by show f<=h1.size;omega,hs,hc,may,λi n hn=>oks n (xd hn)⟩;have k05:=k1.trans k15;have inv:(c.at λy=>y=E.size).I K:=by
  refine⟨k5.De g4 (by simp),o.De λj D=>k05.get j (o.lt D) (by simp),List.replicate ns.length ⟨none,0⟩,by simp;rfl,?_,λb r hr=>.inl (xh (xd hr)),λb d X n p J _=>?_⟩
  ·have:=(k4.trans k5).De g2 (by simp);rw[List.map_replicate];exact this
  ·have:=xh (xd J);cases this
 obtain⟨bg,hbg⟩:∃b,Iv=b+10000:=⟨Iv - 10000,by rw[OX]⟩;refine AP (W.mono (Ru ok a ha Iv (by have:a<ns.length:=ha;omega) i hi (λy=>y=E.size) K (λy hy=>by omega) inv) ?_);rintro⟨x5,H⟩ ⟨⟨Y,bs,rfl,lb,bY,_,J⟩,st6⟩;have b6:=st6.fix.bo b5;have lb:bs.length=s.length+1:=lb;obtain⟨T,ec,b7⟩:=U2 (g:=⟨f,[]⟩) b6 bY (Hq (by omega)) (show(List.replicate (s.length+1) false).length=s.length+1 by simp) lb (by omega);have ec:Ve 1 ⟨f,[]⟩ H ⟨some (E.size,0),s.length+1⟩ (s.length+1) (.slice (some (Y,0)) (s.length+1))=some (((s.length+1:Nat):Int),T):=ec;show W ((Ve 1 ⟨f,[]⟩ H ⟨some (E.size,0),s.length+1⟩ (s.length+1) (.slice (some (Y,0)) (s.length+1))).bind _) _;rw[ec];exact AH ⟨E.size,bs,rfl,lb,b7,J⟩
end
end Go.Abs.L
