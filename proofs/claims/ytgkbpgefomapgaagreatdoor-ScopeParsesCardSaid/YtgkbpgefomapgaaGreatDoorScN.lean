/-
  Several texts in one.
-/
import Derived.Test.YtgkbpgefomapgaaGreatDoorScG
import Derived.Test.YtgkbpgefomapgaaGreatDoorDfaS
import Derived.Test.YtgkbpgefomapgaaGreatDoorScE
/-
 A part.
-/
section
namespace Go.Av.L
open Go.Av Go.Lib
set_option linter.unusedVariables false
theorem Zw{a b:AM}(h:ZJ cfg.P 113 [.int .i64 a.Kind,.int .i64 a.A,.int .i64 a.B,.int .i64 a.Min,.int .i64 a.Max,.int .i64 a.By,.int .u64 a.Set.w0,.int .u64 a.Set.w1,.int .u64 a.Set.w2,.int .u64 a.Set.w3] [.int .i64 b.Kind,.int .i64 b.A,.int .i64 b.B,.int .i64 b.Min,.int .i64 b.Max,.int .i64 b.By,.int .u64 b.Set.w0,.int .u64 b.Set.w1,.int .u64 b.Set.w2,.int .u64 b.Set.w3]=some true):a.By=b.By:=by
 have e:ZJ cfg.P 113 [.int .i64 a.Kind,.int .i64 a.A,.int .i64 a.B,.int .i64 a.Min,.int .i64 a.Max,.int .i64 a.By,.int .u64 a.Set.w0,.int .u64 a.Set.w1,.int .u64 a.Set.w2,.int .u64 a.Set.w3] [.int .i64 b.Kind,.int .i64 b.A,.int .i64 b.B,.int .i64 b.Min,.int .i64 b.Max,.int .i64 b.By,.int .u64 b.Set.w0,.int .u64 b.Set.w1,.int .u64 b.Set.w2,.int .u64 b.Set.w3]=Ae (a.Kind==b.Kind) (Ae (a.A==b.A) (Ae (a.B==b.B) (Ae (a.Min==b.Min) (Ae (a.Max==b.Max) (Ae (a.By==b.By) (match(Ae (a.Set.w0==b.Set.w0) (Ae (a.Set.w1==b.Set.w1) (Ae (a.Set.w2==b.Set.w2) (Ae (a.Set.w3==b.Set.w3) (some true) (some false)) (some false)) (some false)) (some false):Option Bool)with|some true=>some true|some false=>some false|none=>none) (some false)) (some false)) (some false)) (some false)) (some false)) (some false):=by kernel_rfl
 rw[e]at h;by_cases hg:a.By=b.By
 ·exact hg
 ·have hg2:(a.By==b.By)=false:=by rw[yT];exact hg
  rw[hg2,Az]at h;revert h;cases(a.Kind==b.Kind)<;>cases(a.A==b.A)<;>cases(a.B==b.B)<;>cases(a.Min==b.Min)<;>cases(a.Max==b.Max)<;>(intro h;cases h)
end Go.Av.L
end
/-
 A part.
-/
section
namespace Go.Av.L
open Go.Av Go.Lib
set_option linter.unusedVariables false
set_option linter.unusedSimpArgs false
set_option maxRecDepth 10000
theorem Yv(n:AM)(i:Int):W (G5 n i) λb=>b=true->(n.Kind=5->1<=n.By)/\n.By<=1024:=by
 unfold G5;refine AJ (W.mono (Q:=λx=>n.Kind=5\/x.1.By=0) ?_ λx H=>?_)
 ·unfold JQ;refine AJ (W.mono (Q:=λ_=>True) (Am (λ_=>AB trivial) λ_=>Am (λ_=>AB trivial) λ_=>AB trivial) λ_ _=>Am (λ_=>AB (.inr rfl)) λ_=>Am (λ_=>AB (.inr rfl)) λ_=>?_);refine AJ (W.mono (Q:=λ_=>True) (Am (λ_=>AB trivial) λ_=>AB trivial) λ_ _=>Am (λ_=>AB (.inr rfl)) λ_=>Am (λ_=>AB (.inr rfl)) λ_=>Am (λh=>AB (.inl (by simpa using h))) λ_=>AB (.inr rfl))
 obtain⟨x1,x2⟩:=x;refine AJ (W.mono (Q:=λx3=>x3=false->x1.By=n.By) (Am (λ_=>AB λh=>by cases h) λ_=>?_) λx3 V=>?_)
 ·obtain⟨r,er,_⟩:=X7 x1 n;refine AJ ⟨r,er,AB λh=>?_⟩;have h:r=true:=by simpa using h
  subst h;exact Zw er
 refine Am (λ_=>AB λh=>by cases h) λh3f=>?_;have hgr:=V h3f;refine AJ (W.mono (Q:=λb=>b=(n.Kind==2||n.Kind==3)) (Am (λh=>AB (by rw[h];rfl)) λh=>AB (by rw[h];rfl)) λb hb=>?_);subst hb
 have no5:n.Kind≠5->(n.Kind=5->1<=n.By)/\n.By<=1024:=λh=>⟨λC=>absurd C h,by
  rcases H with C|C
  ·exact absurd C h
  ·dsimp only at C;omega⟩
 refine Am (λh=>?_) λh=>?_
 ·unfold DH;refine AJ (AB (AJ (W.mono (Q:=λ_=>True) (Am (λ_=>AJ (AB (AB trivial))) λ_=>AB trivial) λb _=>AB λ_=>no5 λX=>?_)));rw[X]at h;cases h
 ·refine Am (λS=>?_) λS=>Am (λX=>?_) λX=>AB λ_=>no5 λh=>by rw[h]at X;cases X
  ·unfold DH;refine AJ (AB (AB λ_=>no5 λh=>?_));rw[h]at S;cases S
  ·unfold DH;refine AJ (AB (AB λhb=>?_));simp only[zj,zx]at hb;exact⟨λ_=>hb.1.2,hb.2⟩
theorem Rv(t:AO):W (B7 t) λb=>b=true->∀(i:Nat) n,t.AN[i]?=some n->(n.Kind=5->1<=n.By)/\n.By<=1024:=by
 unfold B7;refine Am (λ_=>AB λh=>by cases h) λhb=>?_;simp only[zG,zB]at hb;refine AJ (W.mono (W.loop (λs=>∃i:Nat,s=(i:Int)/\i<=t.AN.length/\∀(j:Nat) n,j<i->t.AN[j]?=some n->(n.Kind=5->1<=n.By)/\n.By<=1024) (λs=>(t.AN.length - s).toNat) ⟨0,rfl,by omega,λj n hj=>by omega⟩ ?_ (Q:=λo=>match o with| .inl _=>∀(j:Nat) n,t.AN[j]?=some n->(n.Kind=5->1<=n.By)/\n.By<=1024| .inr b=>b=false)) λo Z=>?_)
 ·rintro _ ⟨i,rfl,h1,C⟩;unfold EL;refine Be (λhl=>?_) λhl=>AB ?_
  ·have hi:i<t.AN.length:=by omega
   rw[CR hi,za];refine AJ ((Yv _ _).mono λb hb2=>Am (λ_=>AB rfl) λhbt=>?_);have hbt:b=true:=by simpa using hbt
   refine AB ⟨⟨i+1,by rw[Ee (by omega)],by omega,λj n hj E=>?_⟩,by rw[Ee (by omega)];omega⟩;by_cases e:j=i
   ·subst e;rw[List.getElem?_eq_getElem hi]at E;obtain rfl:=zw E;exact hb2 hbt
   ·exact C j n (by omega) E
  ·intro j n E;exact C j n (by have:=(List.getElem?_eq_some_iff.1 E).1;omega) E
 ·cases o with
  |inl u=>exact AB λ_=>Z
  |inr b=>exact AB λh=>by rw[Z]at h;cases h
structure bK(t:Tk)(l:List Bool):Prop where
 len:l.length=t.AN.length
 root:l[t.BI.toNat]?=some true
 two:∀(i:Nat) n,t.AN[i]?=some n->l[i]?=some true->n.Kind=2\/n.Kind=3->l[n.A.toNat]?=some true/\l[n.B.toNat]?=some true
 one:∀(i:Nat) n,t.AN[i]?=some n->l[i]?=some true->n.Kind=4\/n.Kind=5->l[n.A.toNat]?=some true
theorem OP{l:List Bool}{i j:Nat}(h:l[j]?=some true):(l.set i true)[j]?=some true:=by
 rw[List.getElem?_set];split
 ·rename_i e;subst e;rw[zk (List.getElem?_eq_some_iff.1 h).1]
 ·exact h
theorem Sd{l:List Bool}{i:Nat}(h:i<l.length):(l.set i true)[i]?=some true:=by
 rw[List.getElem?_set,zk rfl,zk h]
theorem Wd{t:Tk}(T:Iu t):W (Gp t) (bK t):=by
 unfold Gp;have hl:=T.len;have I:=T.root;obtain⟨q,hq⟩:=zn I.1;rw[hq]at I⊢;refine Ce (by unfold YD;exact zi ⟨by omega,by omega,by omega⟩) ?_;rw[CR (by rw[qj];omega),za]
 refine AJ (W.mono (W.loop (λs=>s.1.length=t.AN.length/\-1<=s.2/\s.2<t.AN.length/\s.1[q]?=some true/\
   (∀(i:Nat) n,s.2<(i:Int)->t.AN[i]?=some n->s.1[i]?=some true->n.Kind=2\/n.Kind=3->s.1[n.A.toNat]?=some true/\s.1[n.B.toNat]?=some true)/\
   (∀(i:Nat) n,s.2<(i:Int)->t.AN[i]?=some n->s.1[i]?=some true->n.Kind=4\/n.Kind=5->s.1[n.A.toNat]?=some true)) (λs=>(s.2+1).toNat) ⟨by simp,by omega,I.2,?_,?_,?_⟩ ?_ (Q:=bK t)) λr I=>AB I)
 ·rw[zl];exact Sd (by simp;omega)
 ·intro i n hi _ h1 _;rw[zl,List.getElem?_set,zm (by omega)]at h1;exact absurd h1 (Ii i)
 ·intro i n hi _ h1 _;rw[zl,List.getElem?_set,zm (by omega)]at h1;exact absurd h1 (Ii i)
 rintro⟨x2,x3⟩ ⟨h1,C,V,S,X,h6⟩;simp only at h1 C V S X h6;unfold Hw;refine Be (λhge=>?_) λhlt=>AB ⟨h1,by rw[hq];exact S,λi n E hu=>X i n (by omega) E hu,λi n E hu=>h6 i n (by omega) E hu⟩;obtain⟨i,rfl⟩:=zn hge;have hi:i<t.AN.length:=by omega
 refine AJ (W.mono (Q:=λ(l:List Bool)=>l.length=t.AN.length/\l[q]?=some true/\
   (∀(j:Nat) n,(i:Int) - 1<(j:Int)->t.AN[j]?=some n->l[j]?=some true->n.Kind=2\/n.Kind=3->l[n.A.toNat]?=some true/\l[n.B.toNat]?=some true)/\
   (∀(j:Nat) n,(i:Int) - 1<(j:Int)->t.AN[j]?=some n->l[j]?=some true->n.Kind=4\/n.Kind=5->l[n.A.toNat]?=some true)) ?_ λl hl2=>AB ⟨⟨hl2.1,?_,?_,hl2.2.1,?_,?_⟩,?_⟩)
 rotate_left
 ·simp only;rw[Ht (by omega) (by omega)];omega
 ·simp only;rw[Ht (by omega) (by omega)];omega
 ·simp only;rw[Ht (by omega) (by omega)];exact hl2.2.2.1
 ·simp only;rw[Ht (by omega) (by omega)];exact hl2.2.2.2
 ·simp only;rw[Ht (by omega) (by omega)];omega
 have H:i<x2.length:=by omega
 have hni:t.AN[i]?=some t.AN[i]:=List.getElem?_eq_getElem hi;rw[CR H,za];have stay:x2[i]=false\/¬(t.AN[i].Kind=2\/t.AN[i].Kind=3\/t.AN[i].Kind=4\/t.AN[i].Kind=5)->x2.length=t.AN.length/\x2[q]?=some true/\
   (∀(j:Nat) n,(i:Int) - 1<(j:Int)->t.AN[j]?=some n->x2[j]?=some true->n.Kind=2\/n.Kind=3->x2[n.A.toNat]?=some true/\x2[n.B.toNat]?=some true)/\
   (∀(j:Nat) n,(i:Int) - 1<(j:Int)->t.AN[j]?=some n->x2[j]?=some true->n.Kind=4\/n.Kind=5->x2[n.A.toNat]?=some true):=by
  intro hno;refine⟨h1,S,λj n hj E hu F=>?_,λj n hj E hu F=>?_⟩
  all_goals
   by_cases e:j=i
   ·subst e;exfalso;rw[List.getElem?_eq_getElem H]at hu;rw[hni]at E;obtain rfl:=zw E;rcases hno with h|h
    ·rw[h]at hu;cases hu
    ·exact h (by omega)
   ·first|exact X j n (by omega) E hu F|exact h6 j n (by omega) E hu F
 refine Am (λhu=>AB (stay (.inl (by simpa using hu)))) λhu=>?_;rw[CR hi,za];have E:=T.nodes i _ hni;have mark:∀(l:List Bool),l.length=t.AN.length->(∀j:Nat,x2[j]?=some true->l[j]?=some true)->(∀j:Nat,i<j->l[j]?=some true->x2[j]?=some true)->
   (t.AN[i].Kind=2\/t.AN[i].Kind=3->l[t.AN[i].A.toNat]?=some true/\l[t.AN[i].B.toNat]?=some true)->(t.AN[i].Kind=4\/t.AN[i].Kind=5->l[t.AN[i].A.toNat]?=some true)->
   l.length=t.AN.length/\l[q]?=some true/\
   (∀(j:Nat) n,(i:Int) - 1<(j:Int)->t.AN[j]?=some n->l[j]?=some true->n.Kind=2\/n.Kind=3->l[n.A.toNat]?=some true/\l[n.B.toNat]?=some true)/\
   (∀(j:Nat) n,(i:Int) - 1<(j:Int)->t.AN[j]?=some n->l[j]?=some true->n.Kind=4\/n.Kind=5->l[n.A.toNat]?=some true):=by
  intro l e1 up dn k1 k2;refine⟨e1,up _ S,λj n' hj hn' hu' F=>?_,λj n' hj hn' hu' F=>?_⟩
  ·by_cases e:j=i
   ·subst e;rw[hni]at hn';obtain rfl:=zw hn';exact k1 F
   ·have:=X j n' (by omega) hn' (dn j (by omega) hu') F;exact⟨up _ this.1,up _ this.2⟩
  ·by_cases e:j=i
   ·subst e;rw[hni]at hn';obtain rfl:=zw hn';exact k2 F
   ·exact up _ (h6 j n' (by omega) hn' (dn j (by omega) hu') F)
 have dn1:∀(l:List Bool) (p:Nat),p<i->(∀j:Nat,i<j->l[j]?=some true->x2[j]?=some true)->∀j:Nat,i<j->(l.set p true)[j]?=some true->x2[j]?=some true:=by
  intro l p K h j hj hjt;rw[List.getElem?_set,zm (by omega)]at hjt;exact h j hj hjt
 generalize t.AN[i]=n at E stay mark⊢;rw[OE,za];refine Am (λF=>?_) λF=>?_
 ·simp only[zW,yu]at F;obtain⟨a1,a2,b1,b2⟩:=E.1 F;obtain⟨p,K⟩:=zn a1;obtain⟨r,N⟩:=zn b1;rw[K,N]at mark⊢;rw[CR (show p<x2.length by omega),za,zl,zl,CR (show r<(x2.set p true).length by simp;omega),za];refine AB (mark _ (by simpa using h1) (λj h=>OP (OP h)) (dn1 _ r (by omega) (dn1 _ p (by omega) λj _ h=>h)) (λ_=>?_) λh=>by omega);rw[zl,zl];exact⟨OP (Sd (by omega)),Sd (by simp;omega)⟩
 ·simp only[zG,yT]at F;rw[OE,za];refine Am (λhk2=>?_) λhk2=>?_
  ·simp only[zW,yu]at hk2;have ha:0<=n.A/\n.A<(i:Int):=by
    rcases hk2 with F|F
    ·exact⟨(E.2.1 F).1,(E.2.1 F).2.1⟩
    ·exact E.2.2 F
   obtain⟨p,K⟩:=zn ha.1;rw[K]at mark⊢;rw[CR (show p<x2.length by omega),za,zl];refine AB (mark _ (by simpa using h1) (λj h=>OP h) (dn1 _ p (by omega) λj _ h=>h) (λh=>by omega) λ_=>?_);rw[zl];exact Sd (by omega)
  ·simp only[zG,yT]at hk2;exact AB (stay (.inr (by omega)))
theorem Pj{t:Tk}(I:B7 t=some true):W (Ev t) λr=>0<=r/\r<=1024/\∃l,bK t l/\∀(i:Nat) n,t.AN[i]?=some n->l[i]?=some true->n.By<=r:=by
 have T:Iu t:=by
  obtain⟨b,e,q⟩:=MQ t;rw[I]at e;cases e;exact q rfl
 have hG:∀(i:Nat) n,t.AN[i]?=some n->(n.Kind=5->1<=n.By)/\n.By<=1024:=by
  obtain⟨b,e,q⟩:=Rv t;rw[I]at e;cases e;exact q rfl
 have hl:=T.len;unfold Ev;rw[I,za,z6,Az];refine AJ ((Wd T).mono λl U=>?_);have hl2:=U.len;refine AJ (W.mono (W.loop (λs=>0<=s.1/\s.1<=1024/\0<=s.2/\s.2<=t.AN.length/\∀(i:Nat) n,(i:Int)<s.2->t.AN[i]?=some n->l[i]?=some true->n.By<=s.1) (λs=>(t.AN.length - s.2).toNat) ⟨zN _,by simp,zN _,by simp,λi n h=>by simp only at h;omega⟩ ?_ (Q:=λr=>0<=r/\r<=1024/\∀(i:Nat) n,t.AN[i]?=some n->l[i]?=some true->n.By<=r)) λr I=>AB ⟨I.1,I.2.1,l,U,I.2.2⟩);rintro⟨x3,x4⟩ ⟨h1,h1b,C,V,S⟩;simp only at h1 h1b C V S;unfold HP;refine Be (λhlt=>?_) λhlt=>AB ⟨h1,h1b,λi n E hu=>S i n (by have:=(List.getElem?_eq_some_iff.1 E).1;omega) E hu⟩;obtain⟨i,rfl⟩:=zn C;have hi:i<t.AN.length:=by omega
 refine AJ (W.mono (Q:=λv=>x3<=v/\v<=1024/\(l[i]?=some true->t.AN[i].By<=v)) ?_ λv hv=>AB ⟨⟨?_,hv.2.1,?_,?_,?_⟩,?_⟩)
 ·rw[CR (show i<l.length by omega),za];refine Am (λ_=>?_) λhf=>AB ⟨zN _,h1b,λh=>?_⟩
  ·rw[CR hi,za];have:=(hG i _ (List.getElem?_eq_getElem hi)).2;refine AB ⟨?_,?_,λ_=>?_⟩
   ·unfold mx;split<;>omega
   ·unfold mx;split<;>omega
   ·unfold mx;split<;>omega
  ·rw[List.getElem?_eq_getElem (show i<l.length by omega),hf]at h;cases h
 ·simp only;omega
 ·simp only;rw[Ee (by omega)];omega
 ·simp only;rw[Ee (by omega)];omega
 ·simp only;intro j n hj E hu;rw[Ee (by omega)]at hj;by_cases e:j=i
  ·subst e;rw[List.getElem?_eq_getElem hi]at E;obtain rfl:=zw E;exact hv.2.2 hu
  ·have:=S j n (by omega) E hu;omega
 ·simp only;rw[Ee (by omega)];omega
end Go.Av.L
end
/-
 A part.
-/
section
namespace Go.Av.L
open Go.Av Go.Lib
set_option linter.unusedVariables false
set_option linter.unusedSimpArgs false
set_option maxRecDepth 10000
abbrev Z7:=Ao
abbrev Va:=Ac
section
variable {t:Tk} {s:List UInt8}
theorem Tb.at_{l:List Bool}{i:Nat}{q:Int}{a j:Nat}(h:Tb t s l i q a)(hj:j<=s.length):∃b,FT l (j:Int)=some b/\(b=true↔En t s i q a j):=by
 have hl:=h.1;have hlt:j<l.length:=by omega
 refine⟨l[j],CR hlt,?_⟩;rw[<-h.2,List.getElem?_eq_getElem hlt];simp
theorem Sp(T:Iu t)(hs:s.length<=100000){p i:Nat}{q:Int}{a b:Nat}{jn jt:Int}{m:Su}(K:p<t.AN.length)(hi:i<t.AN.length)(hq:Qk t i q)(hab:a<=b)(hb:b<=s.length)(hv:Vd t s m):
  W (Eu ⟨t,s,m⟩ (p:Int) (i:Int) q ⟨jn,jt,(a:Int),(b:Int)⟩ (a:Int)) λr=>Vd t s r.2/\∃k:Nat,r.1=(k:Int)/\a<=k/\k<=b/\
   ((a<k/\En t s p 0 a k/\En t s i q k b)\/(k=a/\∀k',a<k'->k'<=b->¬(En t s p 0 a k'/\En t s i q k' b))):=by
 unfold Eu;dsimp only;refine AJ ((M0 T hs p 0 a m K (Qk.zero T _) (by omega) hv).mono λr I=>?_);obtain⟨l,m1⟩:=r;obtain⟨hl,v1⟩:=I;dsimp only at hl v1⊢
 refine AJ (W.mono (W.loop (λu:Su×Int=>Vd t s u.1/\∃k:Nat,u.2=(k:Int)/\a<=k/\k<=b/\∀k',k<k'->k'<=b->¬(En t s p 0 a k'/\En t s i q k' b)) (λu=>u.2.toNat) ⟨v1,b,rfl,hab,zo _,λk' h1 C=>by omega⟩ ?_
  (Q:=λo=>match o with
   | .inl m=>Vd t s m/\∀k',a<k'->k'<=b->¬(En t s p 0 a k'/\En t s i q k' b)
   | .inr (m,k)=>Vd t s m/\∃k':Nat,k=(k':Int)/\a<k'/\k'<=b/\En t s p 0 a k'/\En t s i q k' b)) λo Z=>?_)
 ·rintro⟨m2,_⟩ ⟨v2,k,rfl,k1,k2,k3⟩;dsimp only at v2;unfold HN;dsimp only;refine Be (λhgt=>?_) λhle=>AB ⟨v2,λk' h1 C=>k3 k' (by omega) C⟩;obtain⟨x,H,hx2⟩:=hl.at_ (j:=k) (by omega);rw[H,za];refine AJ (W.mono (Q:=λr:Su×Bool=>Vd t s r.1/\(r.2=true↔En t s p 0 a k/\En t s i q k b)) ?_ λr I=>?_)
  ·refine Am (λh=>?_) λh=>AB ⟨v2,⟨λh=>(by cases h),λC=>(by rw[hx2.2 C.1]at h;cases h)⟩⟩;refine AJ ((M0 T hs i q k m2 hi hq (by omega) v2).mono λr I=>?_);obtain⟨l',m3⟩:=r;obtain⟨hl',v3⟩:=I;dsimp only at hl' v3⊢;obtain⟨y,O,Y⟩:=hl'.at_ (j:=b) hb;rw[O,za];exact AB ⟨v3,λC=>⟨hx2.1 h,Y.1 C⟩,λC=>Y.2 C.2⟩
  ·obtain⟨m3,y⟩:=r;obtain⟨v3,O⟩:=I;dsimp only at v3 O⊢;refine Am (λh=>AB ⟨v3,k,rfl,by omega,k2,O.1 h⟩) λh=>?_;rw[Ht (by omega) (by omega)];refine AB ⟨⟨v3,k - 1,by dsimp only;omega,by omega,by omega,λk' h1 C V=>?_⟩,by dsimp only;omega⟩;by_cases e:k'=k
   ·subst e;rw[O.2 V]at h;cases h
   ·exact k3 k' (by omega) C V
 ·cases o with
  |inl m2=>exact AB ⟨Z.1,a,rfl,zo _,hab,.inr ⟨rfl,Z.2⟩⟩
  |inr x=>
   obtain⟨m2,k⟩:=x;obtain⟨v2,k',rfl,k1,k2,k3⟩:=Z;exact AB ⟨v2,k',rfl,by omega,k2,.inl ⟨k1,k3⟩⟩
structure Jb(t:Tk)(s:List UInt8)(l:List Bool)(i:Nat)(q:Int)(a b:Nat):Prop where
 ii:i<t.AN.length
 qq:Qk t i q
 ee:En t s i q a b
 uu:l[i]?=some true
 bb:b<=s.length
def K5(i:Nat)(q:Int)(a b:Nat):Va:=⟨(i:Int),q,(a:Int),(b:Int)⟩
theorem W8(T:Iu t)(hs:s.length<=100000){l:List Bool}(U:bK t l){g:Nat}(hg1:∀(i:Nat) n,t.AN[i]?=some n->n.Kind=5->1<=n.By)(hg2:∀(i:Nat) n,t.AN[i]?=some n->l[i]?=some true->n.By<=(g:Int))(m0:Su):
  ∀(M:Nat) (i:Nat) (q:Int) (a b:Nat) (m:Su) (rest:List Va) (out:List Z7),Ms t s i q a<=M->Jb t s l i q a b->Vd t s m->rest.length+M<=1000000000->out.length=g+1->
   ∃(m':Su) (out':List Z7),Vd t s m'/\out'.length=g+1/\loop (CM ⟨t,s,m0⟩) (m,rest++[K5 i q a b],out)=loop (CM ⟨t,s,m0⟩) (m',rest,out'):=by
 intro M
 induction M using Nat.strongRecOn with
 |ind M ih=>
 intro i q a b m rest out hM J hv I Z;have hab:=J.ee.le.1;have hi:=J.ii;have E:t.AN[i]?=some t.AN[i]:=List.getElem?_eq_getElem hi;have hT:=T.nodes i _ E;have hG1:=hg1 i _ E;have hG2:=hg2 i _ E J.uu;have hU2:=U.two i _ E J.uu;have hU1:=U.one i _ E J.uu;generalize t.AN[i]=n at E hT hG1 hG2 hU2 hU1;have step:W (CM ⟨t,s,m0⟩ (m,rest++[K5 i q a b],out)) λo=>match o with
   | .inl (m',todo,out')=>Vd t s m'/\out'.length=g+1/\(todo=rest\/(∃i1 q1 a1 b1,todo=rest++[K5 i1 q1 a1 b1]/\Jb t s l i1 q1 a1 b1/\Ms t s i1 q1 a1+2<=Ms t s i q a)\/
     ∃i1 q1 a1 b1 i2 q2 a2 b2,todo=(rest++[K5 i1 q1 a1 b1])++[K5 i2 q2 a2 b2]/\Jb t s l i1 q1 a1 b1/\Ms t s i1 q1 a1+2<=Ms t s i q a/\Jb t s l i2 q2 a2 b2/\Ms t s i2 q2 a2+2<=Ms t s i q a)
   | .inr _=>False:=by
  have hlen:(rest++[K5 i q a b]).length=rest.length+1:=by simp
  have hMs:2<=M:=by unfold Ms at hM;omega
  unfold CM;dsimp only;rw[hlen,zi (by omega),Bd,Ht (by omega) (by omega),show((rest.length+1:Nat):Int) - 1=((rest.length:Nat):Int) by omega,G4 (x:=K5 i q a b) (by simp),za,VS (by simp),za,yX];rw[show(K5 i q a b).HR=(i:Int) from rfl,show(K5 i q a b).from_=(a:Int) from rfl,show(K5 i q a b).JL=(b:Int) from rfl,show(K5 i q a b).Hh=q from rfl,G4 E,za];have okn:∀k:Nat,k<=2->J5 32 (rest.length+k)=true:=λk F=>DL (by omega) (by omega);rw[CO];split
  ·rename_i F;have hA:=hT.2.2 F;have hGl:=hG1 F;obtain⟨p,K⟩:=zn hA.1;obtain⟨z,hz⟩:∃z:Nat,n.By=(z:Int):=⟨n.By.toNat,by omega⟩;have uA:=hU1 (.inr F);unfold FF;rw[hz,CR (show z<out.length by omega),za,za,show(rest.length+([(⟨n.A,(0:Int),(a:Int),(b:Int)⟩:Va)]:List Va).length)=rest.length+1 from rfl,okn 1 (by omega),Gr];refine AB ⟨hv,by rw[zr];exact Z,.inr (.inl ⟨p,0,a,b,by rw[K];rfl,?_,?_⟩)⟩
   ·rcases J.ee.inv E with h|h|h|h|h
    ·have:=h.kind;omega
    ·omega
    ·refine⟨by omega,Qk.zero T _,?_,?_,J.bb⟩
     ·have:=h.2;rw[K,zl]at this;exact this
     ·rw[K,zl]at uA;exact uA
    all_goals omega
   ·exact Ms.part T (by omega) q a a
  rename_i X;rw[CO];split
  ·rename_i F;have hAB:=hT.1 (.inr F);obtain⟨p,K⟩:=zn hAB.1;obtain⟨r,N⟩:=zn hAB.2.2.1;have uAB:=hU2 (.inr F);rw[K,N,zl,zl]at uAB;rw[K,N];refine AJ (W.mono (Q:=λu:Su×Int=>Vd t s u.1/\∃z:Nat,u.2=(z:Int)/\z<i/\En t s z 0 a b/\l[z]?=some true) ?_ λu hu=>?_)
   ·refine AJ ((M0 T hs p 0 a m (by omega) (Qk.zero T _) (by have:=J.bb;omega) hv).mono λx H=>?_);obtain⟨w,m1⟩:=x;obtain⟨hw,v1⟩:=H;dsimp only at hw v1⊢;obtain⟨y,O,Y⟩:=hw.at_ (j:=b) J.bb;rw[O,za];refine Am (λh=>AB ⟨v1,r,rfl,by omega,?_,uAB.2⟩) λh=>AB ⟨v1,p,rfl,by omega,Y.1 (by simpa using h),uAB.1⟩;have hny:¬En t s p 0 a b:=λC=>by rw[Y.2 C]at h;cases h
    rcases J.ee.inv E with h|h|h|h|h
    ·have:=h.kind;omega
    ·rw[K,N,zl,zl]at h;rcases h.2 with h|h
     ·exact absurd h hny
     ·exact h
    all_goals omega
   ·obtain⟨m1,_⟩:=u;obtain⟨v1,z,rfl,z1,z2,z3⟩:=hu;dsimp only at v1⊢;rw[show(rest.length+([(⟨(z:Int),(0:Int),(a:Int),(b:Int)⟩:Va)]:List Va).length)=rest.length+1 from rfl,okn 1 (by omega),Gr];exact AB ⟨v1,Z,.inr (.inl ⟨z,0,a,b,rfl,⟨by have:=J.ii;omega,Qk.zero T _,z2,z3,J.bb⟩,Ms.part T z1 q a a⟩)⟩
  rename_i V;rw[CO];split
  ·rename_i F;have hAB:=hT.1 (.inl F);obtain⟨p,K⟩:=zn hAB.1;obtain⟨r,N⟩:=zn hAB.2.2.1;have uAB:=hU2 (.inl F);rw[K,N,zl,zl]at uAB;rw[K,N];refine AJ ((Sp T hs (jn:=(i:Int)) (jt:=q) (p:=p) (i:=r) (q:=0) (a:=a) (b:=b) (m:=m) (by have:=J.ii;omega) (by have:=J.ii;omega) (Qk.zero T _) hab J.bb hv).mono λx H=>?_);obtain⟨_,m1⟩:=x;obtain⟨v1,k,rfl,k1,k2,k3⟩:=H;dsimp only at v1⊢;rw[show(rest.length+([(⟨(r:Int),(0:Int),(k:Int),(b:Int)⟩:Va),(⟨(p:Int),(0:Int),(a:Int),(k:Int)⟩:Va)]:List Va).length)=rest.length+2 from rfl,okn 2 (by omega),Gr];have both:En t s p 0 a k/\En t s r 0 k b:=by
    rcases k3 with⟨_,h1,C⟩|⟨e,h⟩
    ·exact⟨h1,C⟩
    ·subst e;rcases J.ee.inv E with h0|h0|h0|⟨_,k',h1,C⟩|h0
     ·have:=h0.kind;omega
     ·omega
     ·omega
     ·rw[K,zl]at h1;rw[N,zl]at C;have l1:=h1.le.1;have l2:=C.le.1;by_cases e:k'=k
      ·subst e;exact⟨h1,C⟩
      ·exact absurd ⟨h1,C⟩ (h k' (by omega) (by omega))
     ·omega
   refine AB ⟨v1,Z,.inr (.inr ⟨r,0,k,b,p,0,a,k,by rw[zO];rfl,⟨by have:=J.ii;omega,Qk.zero T _,both.2,uAB.2,J.bb⟩,Ms.part T (by omega) q a k,⟨by have:=J.ii;omega,Qk.zero T _,both.1,uAB.1,by have:=J.bb;omega⟩,Ms.part T (by omega) q a a⟩)⟩
  rename_i C;rw[CO];split
  ·rename_i F;have hA:=hT.2.1 F;obtain⟨p,K⟩:=zn hA.1;have uA:=hU1 (.inl F);rw[K,zl]at uA;refine Am (λ_=>AB ⟨hv,Z,.inl rfl⟩) λhno=>?_;have hno2:¬(q>=n.Min/\b=a):=λ⟨h1,C⟩=>by
    rw[zi h1,qr,C,yO]at hno;cases hno
   have hinv:q≠n.Max/\∃k,En t s p 0 a k/\(a<k\/q<n.Min)/\En t s i (P4 n q) k b:=by
    rcases J.ee.inv E with h0|h0|h0|h0|⟨_,h0|h0⟩
    ·have:=h0.kind;omega
    ·omega
    ·omega
    ·omega
    ·exact absurd h0 hno2
    ·rw[K,zl]at h0;exact h0
   obtain⟨H,k0,e1,e2,e3⟩:=hinv;obtain⟨hq2,haf⟩:=X3 T E F J.qq H;rw[haf,za,K];refine AJ ((Sp T hs (jn:=(i:Int)) (jt:=q) (p:=p) (i:=i) (q:=P4 n q) (a:=a) (b:=b) (m:=m) (by have:=J.ii;omega) J.ii hq2 hab J.bb hv).mono λx hx2=>?_);obtain⟨_,m1⟩:=x;obtain⟨v1,k,rfl,k1,k2,k3⟩:=hx2;dsimp only at v1⊢;rw[show(rest.length+([(⟨(i:Int),P4 n q,(k:Int),(b:Int)⟩:Va),(⟨(p:Int),(0:Int),(a:Int),(k:Int)⟩:Va)]:List Va).length)=rest.length+2 from rfl,okn 2 (by omega),Gr];have both:En t s p 0 a k/\En t s i (P4 n q) k b/\(a<k\/q<n.Min):=by
    rcases k3 with⟨h0,h1,C⟩|⟨e,h⟩
    ·exact⟨h1,C,.inl h0⟩
    ·subst e;have l1:=e1.le.1;have l2:=e3.le.1;by_cases e:k0=k
     ·subst e;exact⟨e1,e3,e2⟩
     ·exact absurd ⟨e1,e3⟩ (h k0 (by omega) (by omega))
   refine AB ⟨v1,Z,.inr (.inr ⟨i,P4 n q,k,b,p,0,a,k,by rw[zO];rfl,⟨J.ii,hq2,both.2.1,J.uu,J.bb⟩,Wn T E F J.qq H k1 (by have:=J.bb;omega) both.2.2,⟨by have:=J.ii;omega,Qk.zero T _,both.1,uA,by have:=J.bb;omega⟩,Ms.part T (by omega) q a a⟩)⟩
  ·exact AB ⟨hv,Z,.inl rfl⟩
 obtain⟨o,e,h⟩:=step;rcases o with⟨m1,todo,out1⟩|r
 ·rw[DT e];obtain⟨v1,o1,h⟩:=h;rcases h with rfl|⟨i1,q1,a1,b1,rfl,J1,M1⟩|⟨i1,q1,a1,b1,i2,q2,a2,b2,rfl,J1,M1,J2,M2⟩
  ·exact⟨m1,out1,v1,o1,rfl⟩
  ·exact ih (Ms t s i1 q1 a1) (by omega) i1 q1 a1 b1 m1 rest out1 (zo _) J1 v1 (by omega) o1
  ·obtain⟨m2,out2,v2,o2,e2⟩:=ih (Ms t s i2 q2 a2) (by omega) i2 q2 a2 b2 m1 (rest++[K5 i1 q1 a1 b1]) out1 (zo _) J2 v1 (by simp;omega) o1;rw[e2];exact ih (Ms t s i1 q1 a1) (by omega) i1 q1 a1 b1 m2 rest out2 (zo _) J1 v2 (by omega) o2
 ·exact h.elim
theorem W6(t:Tk)(s:List UInt8)(hs:s.length<=100000)(i j:Int):W (HX t s i j) λ_=>True:=by
 obtain⟨br,hbr,hT⟩:=MQ t;obtain⟨br',hbr',hG⟩:=Rv t;rw[hbr]at hbr';obtain rfl:=zw hbr';unfold HX;rw[hbr,za];refine Am (λ_=>AB trivial) λhno=>?_;simp only[zG,yg,zB]at hno;obtain⟨⟨⟨h1,C⟩,V⟩,S⟩:=hno;subst h1;have T:=hT rfl;have G:=hG rfl;obtain⟨a,rfl⟩:=zn (show 0<=i by omega);obtain⟨b,rfl⟩:=zn (show 0<=j by omega);have hroot:=T.root;obtain⟨p,K⟩:=zn hroot.1;have hp2:p<t.AN.length:=by omega
 dsimp only;rw[K];have v0:Vd t s []:=λi q a v h=>by cases h
 refine AJ ((M0 T hs p 0 a [] hp2 (Qk.zero T _) (by omega) v0).mono λx H=>?_);obtain⟨w,m1⟩:=x;obtain⟨hw,v1⟩:=H;dsimp only at hw v1⊢;obtain⟨y,O,Y⟩:=hw.at_ (j:=b) (by omega);rw[O,za];refine Am (λ_=>AB trivial) λhyt=>?_;have hE:=Y.1 (by simpa using hyt);refine AJ ((Pj hbr).mono λg hg=>?_);obtain⟨hg0,hg1,l,U,hgl⟩:=hg;obtain⟨g,rfl⟩:=zn hg0;have hg2:g<=1024:=by omega
 have I:IntKind.i64.wrap ((g:Int)+1)=((g+1:Nat):Int):=Ee (by omega);rw[I];refine Ce (by unfold YD;exact zi (by omega)) ?_;have hx0:FT (List.replicate (g+1) (⟨(0:Int),(0:Int),false⟩:Z7)) (0:Int)=some ⟨0,0,false⟩:=by
  have:=G4 (l:=List.replicate (g+1) (⟨(0:Int),(0:Int),false⟩:Z7)) (i:=0) (x:=⟨0,0,false⟩) (by simp);exact this
 rw[zl,hx0,za];unfold ER;dsimp only;have J:Jb t s l p 0 a b:=⟨hp2,Qk.zero T _,hE,by have:=U.root;rw[K,zl]at this;exact this,by omega⟩;have hM:Ms t s p 0 a<=900000000:=by
  have hl:=T.len;have hm:=Mn.le T p;have:p*Kk s<=1024*Kk s:=yi _ (by omega);unfold Ms Kk at *;omega
 obtain⟨m2,out2,v2,o2,e2⟩:=W8 T hs U (g:=g) (λi n E=>(G i n E).1) hgl m1 (Ms t s p 0 a) p 0 a b m1 [] ((List.replicate (g+1) (⟨(0:Int),(0:Int),false⟩:Z7)).set (0:Int).toNat (⟨(a:Int),(b:Int),true⟩:Z7)) (zo _) J v1 (by simp;omega) (by simp);rw[show([(⟨(p:Int),(0:Int),(a:Int),(b:Int)⟩:Va)]:List Va)=[]++[K5 p 0 a b] from rfl,e2];have fin:CM ⟨t,s,m1⟩ (m2,[],out2)=some (.inr (m2,[],out2)):=rfl;rw[DM fin];exact AB trivial
end
end Go.Av.L
end
/-
 A part.
-/
section
namespace Go.Av.L
open Go.Av Go.Lib
set_option linter.unusedVariables false
set_option linter.unusedSimpArgs false
theorem W4(t:AO)(h:t.AN.length<=1024):W (Gq t) λ_=>True:=by
 unfold Gq;refine Ce (DL (by omega) (by omega)) (AJ (W.mono (W.list (l:=t.AN) (λ(u:List AM) (i:Nat)=>(u,(i:Int))) (λu i=>u.length=t.AN.length) ?_ ?_ t.AN rfl (Q:=λ_=>True)) λr _=>AB trivial))
 ·intro u hu;unfold Gh;dsimp only;rw[zh (by omega),Az];exact AB trivial
 ·intro u i hi hu;unfold Gh;dsimp only;rw[zi (by omega),Bd,CR (by omega),za];unfold Hr;rw[za,za,Ee (by omega)];exact AB ⟨_,rfl,by rw[zr];exact hu⟩
theorem TA(t:AO):W (GW t 4096) λr=>(r.1=none/\r.2≠0)\/∃d a todo bs,r=(some d,0)/\Z6 a todo bs d:=by
 obtain⟨b,I,_⟩:=MQ t;cases b with
 | false=>
  have hB:GR t 4096=some (none,1):=by
   unfold GR;rw[show(decide ((4096:Int)<1)||decide ((4096:Int)>4096))=false from by decide,Az,I];rfl
  unfold GW;rw[show(decide ((4096:Int)<1)||decide ((4096:Int)>4096))=false from by decide,Az,hB];exact AB (.inl ⟨rfl,by decide⟩)
 | true=>
  obtain⟨⟨w,e⟩,hB,hBq⟩:=T4 t I;refine(U4 t I (n:=4096) (by omega) (by omega) hB).mono λr hq=>?_;cases w with
  |none=>
   have:r=(none,7):=hq;exact .inl (by rw[this];exact⟨rfl,by decide⟩)
  |some a=>
   rcases hq with⟨h,_⟩|⟨d,todo,bs,h,_,D⟩
   ·exact .inl (by rw[h];exact⟨rfl,by decide⟩)
   ·exact .inr ⟨d,a,todo,bs,h,D⟩
structure Nn(x:A9)(R:Ax):Prop where
 x:R.x_=x
 d:∃a todo bs,Z6 a todo bs R.d_
 p:bY R.Lw
theorem YZ(x:A9)(hT:x.Cg.length<=90):W (Ex x 4096) λr=>(r.1=none/\r.2.2≠0)\/∃R,r=(some R,0,0)/\Nn x R:=by
 unfold Ex;refine AJ ((Xa x.Re x.FV).mono λr hR=>?_);obtain⟨t,a2,a3⟩:=r;dsimp only at hR⊢;refine Am (λh=>AB (.inl ⟨rfl,by simpa using h⟩)) λh=>?_;have V:a3=0:=by simpa using h
 have I:=hR V;have T:Iu t:=by
  obtain⟨b,e,q⟩:=MQ t;rw[I]at e;cases e;exact q rfl
 refine AJ ((WJ x.Cg hT).mono λr K=>?_);obtain⟨l,b2,b3⟩:=r;dsimp only at K⊢;refine Am (λh=>AB (.inl ⟨rfl,by simpa using h⟩)) λ_=>?_;refine AJ ((SX l (by have:=K.len;omega)).mono λq _=>?_);refine AJ ((Pj I).mono λg _=>?_);refine Am (λh=>AB (.inl ⟨rfl,by decide⟩)) λ_=>?_;refine Am (λh=>AB (.inl ⟨rfl,by decide⟩)) λ_=>?_;refine AJ (W.mono (Q:=λ_=>True) (Am (λ_=>AJ ((W4 t T.len).mono λt' _=>AB trivial)) λ_=>AB trivial) λn _=>?_);obtain⟨n1,n2⟩:=n;dsimp only;refine AJ ((TA _).mono λr hq=>?_);obtain⟨d,e⟩:=r;rcases hq with⟨h1,C⟩|⟨d',a,todo,bs,h,D⟩
 ·dsimp only at h1 C;subst h1;dsimp only;rw[Gi,zm C];exact AB (.inl ⟨rfl,C⟩)
 ·cases h;dsimp only;exact AB (.inr ⟨_,rfl,rfl,⟨a,todo,bs,D⟩,K⟩)
theorem Wf{x:A9}{R:Ax}(hR:Nn x R)(s:List UInt8)(hs:s.length<=4096)(i j:Int):W (E4 R s i j) λr=>r.length<=20000000:=by
 unfold E4;have hl:=hR.p.len;refine AJ (W.mono (Q:=λ_=>True) ?_ λsp _=>AJ ((U7 hR.p s (by omega) sp).mono λr I=>AB I));refine AJ ((TW R.Lw (by omega)).mono λq _=>Am (λ_=>?_) λ_=>AB trivial);exact AJ ((W6 R.t_ s (by omega) i j).mono λr _=>AB trivial)
theorem TC(l:List AX):∀(s:List UInt8) (set:List Int) (i:Nat),∀x∈PH l set s i,(i:Int)<=x/\x<=((i+s.length:Nat):Int)
 |[],set,i=>by
  intro x H;simp only[PH]at H;split at H
  ·simp only[zH]at H;simp only[zQ];omega
  ·simp at H
 | b::t,set,i=>by
  intro x H;simp only[PH,zp]at H;simp only[zD];rcases H with H|H
  ·split at H
   ·simp only[zH]at H;omega
   ·simp at H
  ·have:=TC l t _ (i+1) x H;omega
theorem WN(a:Ay)(s:List UInt8){i:Nat}(hi:i<=s.length):∀x∈KI a s i,(i:Int)<=x/\x<=(s.length:Int):=by
 intro x H;unfold KI at H;split at H
 ·rename_i h0;split at H
  ·simp only[zH]at H;omega
  ·simp at H
 ·have:=TC _ _ _ _ x H;rw[zL]at this;omega
theorem Ov{x:A9}{R:Ax}(hR:Nn x R)(s:List UInt8)(hs:s.length<=4096):W (DD R s) λr=>True:=by
 obtain⟨a,todo,bs,D⟩:=hR.d;unfold DD
 let μ:(List UInt8)×Int×Int×Int×Int->Nat:=λx=>2*(s.length+1 - x.2.2.2.2.toNat)+(if x.2.2.1=x.2.2.2.2 then 0 else 1)
 refine AJ (W.mono (W.loop (λx=>∃k f n:Nat,x.2.1=(k:Int)/\x.2.2.2.2=(f:Int)/\k<=f/\f<=s.length/\x.2.2.2.1=(n:Int)/\x.1.length<=n*20004096/\n+μ x<=10000) μ ⟨0,0,0,rfl,rfl,zo _,zS _,rfl,by simp,by simp only[μ];simp;omega⟩ ?_ (Q:=λq=>∃k:Nat,q.2=(k:Int)/\k<=s.length/\q.1.length<=200040960000)) ?_)
 ·rintro⟨x1,x2,x3,x4,x5⟩ ⟨k,f,n,F,hf,h1,C,V,S,X⟩;simp only[μ]at F hf V S X;subst F hf V;unfold Gt;refine AJ ((Yr D s (by omega) (f:Int)).mono ?_);rintro⟨y1,y2,y3⟩ O;have e0:mx (f:Int) 0=f:=by unfold mx;split<;>omega
  rw[e0]at O;rcases O with⟨O,_⟩|⟨i,hne,O,g1,g2,_⟩
  ·cases O;exact AB ⟨k,rfl,by omega,by simp only[];omega⟩
  ·have hb:=WN a s g2 _ (List.getLast_mem hne);generalize (KI a s i).getLast hne=j' at O hb;obtain⟨j,rfl⟩:=zn (show 0<=j' by omega);cases O;simp only[z6,Az];refine Am (λhc=>?_) λhc=>?_
   ·simp only[zj,yu]at hc;rw[Ee (by omega)];refine Be (λ_=>AB ⟨k,rfl,by omega,by simp only[];omega⟩) λhgt=>AB ⟨⟨k,i+1,n,rfl,rfl,by omega,by omega,rfl,S,?_⟩,?_⟩
    ·simp only[μ];simp only[zl]at X⊢;split<;>split at X<;>omega
    ·simp only[μ,zl];split<;>split<;>omega
   ·have H:¬(i=j/\x3=(f:Int)/\i=f):=by
     rintro⟨rfl,h,rfl⟩;simp[h]at hc
    have hμ:2*(s.length+1 - j)+1<=2*(s.length+1 - f)+(if x3=(f:Int)then 0 else 1):=by
     by_cases hjf:j=f
     ·have:i=f:=by omega
      rw[zm (λh=>H ⟨by omega,h,this⟩)];omega
     ·split<;>omega
    simp only[zl]at X;rw[Ee (by omega)];have hend:∀(q:Nat) (o:List UInt8),q<=j->o.length<=(n+1)*20004096->(∃k' f' n':Nat,(q:Int)=(k':Int)/\(j:Int)=(f':Int)/\k'<=f'/\f'<=s.length/\((n+1:Nat):Int)=(n':Int)/\o.length<=n'*20004096/\n'+(2*(s.length+1 - (j:Int).toNat)+(if(j:Int)=(j:Int)then 0 else 1))<=10000):=by
     intro q o hq Z;refine⟨q,j,n+1,rfl,rfl,hq,by omega,rfl,Z,?_⟩;rw[zk rfl,zl];omega
    have hdec:2*(s.length+1 - (j:Int).toNat)+(if(j:Int)=(j:Int)then 0 else 1)<2*(s.length+1 - (f:Int).toNat)+(if x3=(f:Int)then 0 else 1):=by
     rw[zk rfl,zl,zl];omega
    unfold GA;rw[za];refine Am (λ_=>?_) λ_=>AB ⟨hend k x1 (by omega) (zV S (by omega)),hdec⟩;have hki:k<=i:=by omega
    rw[HF hki g2,za];have l2:((s.drop k).take (i - k)).length<=4096:=by simp only[zP,zL];omega
    refine Ce (DL (by omega) (by omega)) ?_;refine AJ ((Wf hR s hs _ _).mono λz hz=>?_);refine Ce (DL (by simp only[zq];omega) (by simp only[zq];omega)) ?_;have l5:((x1++(s.drop k).take (i - k))++z).length<=(n+1)*20004096:=by simp only[zq];omega
    exact Am (λ_=>AB ⟨j,rfl,by omega,zV l5 (by omega)⟩) λ_=>AB ⟨hend j _ (zo _) l5,hdec⟩
 ·rintro⟨q1,q2⟩ ⟨k,F,C,V⟩;simp only at F V;subst F;simp only[];rw[Lm C,za];have l2:(s.drop k).length<=4096:=by simp only[zL];omega
  exact Ce (DL (by omega) (by omega)) (AB trivial)
end Go.Av.L
end
