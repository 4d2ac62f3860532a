/-
  Several texts in one.
-/
import Derived.Test.YtfgmnhjedmkpeaaAeS
set_option linter.unusedSimpArgs false
/-
 A part.
-/
section
namespace Go.Av.L
open Go.Av Go.Lib
set_option linter.unusedVariables false
set_option linter.unusedSimpArgs false
inductive MV(l:List AE)(s:List UInt8):Nat->Int->Nat->Nat->Prop
 |stop {k:Nat}:k<=s.length->MV l s 0 0 k k
 |free {n:Nat} {q q':Int} {i k:Nat}:q'∈Fm l (decide (i=0)) (decide (i=s.length)) q->MV l s n q' i k->MV l s (n+1) q i k
 |Ug {n:Nat} {q q':Int} {i k:Nat} {b:UInt8}:s[i]?=some b->q'∈IB l (b.toNat:Int) q->MV l s n q' (i+1) k->MV l s (n+1) q i k
theorem U4{t:AL}{l:List AE}(h:Mj t l){b i j:Int}(X:j∈IB l b i):Oy l.length j:=by
 unfold IB at X;split at X
 ·rename_i x hx;split at X
  ·obtain rfl:=zw.1 X;exact(h.st x (zI hx)).a
  ·cases X
 ·cases X
theorem Qw{l:List AE}{s:List UInt8}{q:Int}{k:Nat}{n:Nat}(h:MV l s n q s.length k)(f:List Int)(C:L0 l (decide (s.length=0)) true f q):k=s.length/\L0 l (decide (s.length=0)) true f 0:=by
 generalize J:s.length=i at h C
 induction h with
 |stop h=>exact⟨rfl,C⟩
 |free h1 _ ih=>
  subst J;rw[zW rfl]at h1;exact ih rfl (.step C h1)
 |Ug h1 _ _ _=>
  have:=(List.getElem?_eq_some_iff.1 h1).1;omega
theorem Q6{l:List AE}{s:List UInt8}{f:List Int}{q:Int}(C:L0 l (decide (s.length=0)) true f q)(n:Nat)(h:MV l s n q s.length s.length):∃q0∈f,∃m,MV l s m q0 s.length s.length:=by
 induction C generalizing n with
 |base W=>exact⟨_,W,n,h⟩
 |step _ E ih=>exact ih (n+1) (.free (by rw[zW rfl];exact E) h)
theorem WE{t:AL}{l:List AE}(I:Mj t l){s:List UInt8}{i:Nat}(J:i<s.length){set:List Int}(hc:∀q∈set,∀q'∈Fm l (decide (i=0)) false q,q'∈set){n:Nat}{q:Int}{k:Nat}(h:MV l s n q i k)(C:q∈set):(k=i/\(0:Int)∈set)\/∃b,s[i]?=some b/\∃q1∈set,∃q2∈IB l (b.toNat:Int) q1,∃m,MV l s m q2 (i+1) k:=by
 induction h with
 |stop h=>exact .inl ⟨rfl,C⟩
 |free h1 _ ih=>
  rw[zX (show ¬_=s.length by omega)]at h1;exact ih J hc (hc _ C _ h1)
 |Ug h1 G K _=>exact .inr ⟨_,h1,_,C,_,G,_,K⟩
theorem PW{l:List AE}{t:AL}(I:Mj t l){set:List Int}(Q:∀q∈set,Oy l.length q){fr:Bool}(hc:∀q∈set,∀q'∈Fm l fr false q,q'∈set):(0:Int)∈cl l false false set↔(0:Int)∈set:=by
 rw[GG I Q];constructor
 ·intro h;have:∀j,L0 l false false set j->j∈set:=by
   intro j X
   induction X with
   |base h=>exact h
   |step _ E ih=>exact hc _ ih _ (IW (λe=>by cases e) (λe=>e) E)
  exact this 0 h
 ·exact λh=>.base h
theorem O9{t:AL}{l:List AE}(I:Mj t l)(s:List UInt8):∀(u:List UInt8) (i:Nat) (set:List Int),u=s.drop i->i<=s.length->¬(i=0/\s=[])->(∀q∈set,Oy l.length q)->(∀q∈set,∀q'∈Fm l (decide (i=0)) false q,q'∈set)->
  ∀k:Nat,(k:Int)∈IY l set u i↔∃q∈set,∃n,MV l s n q i k
 | [],i,set,hu,J,Z,Q,hc,k=>by
  have hie:i=s.length:=by
   have:=congrArg List.length hu;rw[yT,yK]at this;omega
  subst hie;have hs0:s.length≠0:=λe=>Z ⟨e,zi e⟩;unfold IY;have e0:decide (s.length=0)=false:=zX hs0;constructor
  ·intro h;split at h
   ·rename_i O;obtain rfl:k=s.length:=by have:=zw.1 h;omega
    rw[GG I Q,<-e0]at O;exact Q6 O 0 (.stop (zr _))
   ·cases h
  ·rintro⟨q,C,n,h⟩;obtain⟨rfl,O⟩:=Qw h set (.base C);rw[e0]at O;rw[zk ((GG I Q).2 O)];simp
 | b ::u,i,set,hu,J,Z,Q,hc,k=>by
  have hil:i<s.length:=by
   have:=congrArg List.length hu;rw[yT,zT]at this;omega
  have W:s[i]?=some b:=by
   rw[<-List.head?_drop,<-hu];rfl
  have hu2:u=s.drop (i+1):=by
   rw[<-List.tail_drop,<-hu];rfl
  have V:∀q∈set.flatMap (IB l (b.toNat:Int)),Oy l.length q:=λq C=>by
   obtain⟨q0,_,h⟩:=yb.1 C;exact U4 I h
  have ih:=O9 I s u (i+1) (Sf l set b.toNat) hu2 hil (by omega) (λq C=>S1 q C) (λq C q' D=>by
   unfold Sf at C⊢;rw[GG I V]at C⊢;rw[zX (by omega)]at D
   exact .step C D) k
  unfold IY;rw[zm,ih];constructor
  ·rintro(h|⟨q,C,n,h⟩)
   ·split at h
    ·rename_i O;rw[PW I Q hc]at O;obtain rfl:k=i:=by have:=zw.1 h;omega
     exact⟨0,O,0,.stop (by omega)⟩
    ·cases h
   ·unfold Sf at C;rw[GG I V]at C;have key:∀q,L0 l false false (set.flatMap (IB l (b.toNat:Int))) q->∀n,MV l s n q (i+1) k->∃q∈set,∃n,MV l s n q i k:=by
     intro q C
     induction C with
     |base U=>
      intro n h;obtain⟨q0,h1,G⟩:=yb.1 U;exact⟨q0,h1,n+1,.Ug W G h⟩
     |step _ E ih=>
      intro n h;exact ih (n+1) (.free (IW (λe=>by cases e) (λe=>by cases e) E) h)
    exact key q C n h
  ·rintro⟨q,C,n,h⟩;rcases WE I hil hc h C with⟨rfl,O⟩|⟨b',U,q1,h1,q2,G,m,K⟩
   ·left;rw[zk ((PW I Q hc).2 O)];simp
   ·right;rw[W]at U;cases U;exact⟨q2,by unfold Sf;rw[GG I V];exact .base (yb.2 ⟨q1,h1,G⟩),m,K⟩
theorem Rw{t:AL}{a:Ah}(h:XI t a)(s:List UInt8){i:Nat}(J:i<=s.length)(k:Nat):(k:Int)∈Kk a s i↔∃n,MV a.l_ s n a.AZ i k:=by
 have Y:∀j∈[a.AZ],Oy a.l_.length j:=by intro j X;obtain rfl:=zw.1 X;exact h.first
 unfold Kk;by_cases Z:i=0/\s=[]
 ·obtain⟨rfl,rfl⟩:=Z;rw[zk ⟨rfl,rfl⟩];constructor
  ·intro F;split at F
   ·rename_i O;obtain rfl:k=0:=by simpa using F
    rw[GG h.l Y]at O;obtain⟨q,C,m,H⟩:=Q6 (s:=[]) O 0 (.stop (zr _));obtain rfl:=zw.1 C;exact⟨m,H⟩
   ·cases F
  ·rintro⟨n,H⟩;obtain⟨rfl,O⟩:=Qw (s:=[]) H [a.AZ] (.base (zw.2 rfl));have O:L0 a.l_ true true [a.AZ] 0:=O;show((0:Nat):Int)∈_;rw[zk ((GG h.l Y).2 O)];simp
 ·rw [zh Z,O9 h.l s _ i _ rfl J Z (λq C=>S1 q C) (λq C q' D=>by
   rw[GG h.l Y]at C⊢
   exact .step C D)]
  constructor
  ·rintro⟨q,C,n,H⟩;rw[GG h.l Y]at C;have key:∀q,L0 a.l_ (decide (i=0)) false [a.AZ] q->∀n,MV a.l_ s n q i k->∃n,MV a.l_ s n a.AZ i k:=by
    intro q C
    induction C with
    |base W=>
     intro n H;obtain rfl:=zw.1 W;exact⟨n,H⟩
    |step _ E ih=>
     intro n H;exact ih (n+1) (.free (IW (λe=>e) (λe=>by cases e) E) H)
   exact key q C n H
  ·rintro⟨n,H⟩;exact⟨a.AZ,(GG h.l Y).2 (.base (zw.2 rfl)),n,H⟩
end Go.Av.L
end
/-
 A part.
-/
section
namespace Go.Av.L
open Go.Av Go.Lib
set_option linter.unusedVariables false
set_option linter.unusedSimpArgs false
def PX(R:Nat->Nat->Prop):Nat->Nat->Nat->Prop
 |0,i,j=>j=i
 |n+1,i,j=>∃k,R i k/\PX R n k j
theorem Mi{R:Nat->Nat->Prop}:∀(a b i j:Nat),PX R (a+b) i j↔∃k,PX R a i k/\PX R b k j
 |0,b,i,j=>by
  rw[qt];exact⟨λh=>⟨i,rfl,h⟩,λ⟨k,h1,G⟩=>by have h1:k=i:=h1;rw[<-h1];exact G⟩
 | a+1,b,i,j=>by
  rw[show a+1+b=(a+b)+1 by omega];constructor
  ·rintro⟨k,h1,G⟩;obtain⟨k2,K,M⟩:=(Mi a b k j).1 G;exact⟨k2,⟨k,h1,K⟩,M⟩
  ·rintro⟨k2,⟨k,h1,K⟩,M⟩;exact⟨k,h1,(Mi a b k j).2 ⟨k2,K,M⟩⟩
def OO(t:AL)(s:List UInt8):Nat->Nat->Nat->Nat->Prop
 |0,_,_,_=>False
 | f+1,p,i,j=>match t.Ad[p]? with
  |none=>False
  |some n=>
   if n.Kind=1 then ∃b:UInt8,s[i]?=some b/\Kp n.Set (b.toNat:Int)=true/\j=i+1
   else if n.Kind=6 then i=0/\j=i
   else if n.Kind=7 then i=s.length/\j=i
   else if n.Kind=2 then ∃k,OO t s f n.A.toNat i k/\OO t s f n.B.toNat k j
   else if n.Kind=3 then OO t s f n.A.toNat i j\/OO t s f n.B.toNat i j
   else if n.Kind=5 then OO t s f n.A.toNat i j
   else if n.Kind=4 then ∃c:Nat,n.Min<=(c:Int)/\(n.Max<0\/(c:Int)<=n.Max)/\PX (OO t s f n.A.toNat) c i j
   else j=i
def OY(t:AL):Nat->Nat->Nat
 |0,_=>0
 | f+1,p=>match t.Ad[p]? with
  |none=>0
  |some n=>
   if n.Kind=2 then OY t f n.A.toNat+OY t f n.B.toNat
   else if n.Kind=3 then OY t f n.A.toNat+OY t f n.B.toNat+1
   else if n.Kind=4 then(if n.Max<0 then(OY t f n.A.toNat+1)*(n.Min.toNat+1)else(OY t f n.A.toNat+1)*n.Max.toNat+1)
   else if n.Kind=5 then OY t f n.A.toNat
   else 1
def Tm(t:AL)(s:List UInt8)(p:Nat):Nat->Nat->Prop:=OO t s (p+1) p
def wg(t:AL)(p:Nat):Nat:=OY t (p+1) p
theorem OQ{t:AL}(T:JU t){p:Nat}{n:AN}(E:t.Ad[p]?=some n)(F:n.Kind=2\/n.Kind=3\/n.Kind=4\/n.Kind=5):n.A.toNat<p:=by
 have h:=T.nodes p n E;rcases F with F|F|F|F
 ·have:=h.1 (.inl F);omega
 ·have:=h.1 (.inr F);omega
 ·have:=h.2.1 F;omega
 ·have:=h.2.2 F;omega
theorem QS{t:AL}(T:JU t){p:Nat}{n:AN}(E:t.Ad[p]?=some n)(F:n.Kind=2\/n.Kind=3):n.B.toNat<p:=by
 have:=(T.nodes p n E).1 F;omega
theorem Oa{t:AL}(T:JU t)(s:List UInt8):∀(p f g:Nat),p<f->p<g->OO t s f p=OO t s g p/\OY t f p=OY t g p:=by
 intro p
 induction p using Nat.strongRecOn with
 | _ p ih=>
  intro f g Y hg;obtain⟨f,rfl⟩:∃k,f=k+1:=⟨f - 1,by omega⟩;obtain⟨g,rfl⟩:∃k,g=k+1:=⟨g - 1,by omega⟩;cases E:t.Ad[p]? with
  |none=>
   refine⟨?_,by simp only[OY,E]⟩;funext i j;simp only[OO,E]
  | some n=>
   have a:(n.Kind=2\/n.Kind=3\/n.Kind=4\/n.Kind=5)->OO t s f n.A.toNat=OO t s g n.A.toNat/\OY t f n.A.toNat=OY t g n.A.toNat:=λF=>ih _ (OQ T E F) f g (by have:=OQ T E F;omega) (by have:=OQ T E F;omega);have b:(n.Kind=2\/n.Kind=3)->OO t s f n.B.toNat=OO t s g n.B.toNat/\OY t f n.B.toNat=OY t g n.B.toNat:=λF=>ih _ (QS T E F) f g (by have:=QS T E F;omega) (by have:=QS T E F;omega);constructor
   ·funext i j;simp only[OO,E];by_cases G:n.Kind=2
    ·rw[(a (.inl G)).1,(b (.inl G)).1]
    by_cases K:n.Kind=3
    ·rw[(a (.inr (.inl K))).1,(b (.inr K)).1]
    by_cases M:n.Kind=4
    ·rw[(a (.inr (.inr (.inl M)))).1];simp[M]
    by_cases S:n.Kind=5
    ·rw[(a (.inr (.inr (.inr S)))).1];simp[S]
    simp only[zh G,zh K,zh M,zh S]
   ·simp only[OY,E];by_cases G:n.Kind=2
    ·rw[(a (.inl G)).2,(b (.inl G)).2]
    by_cases K:n.Kind=3
    ·rw[(a (.inr (.inl K))).2,(b (.inr K)).2]
    by_cases M:n.Kind=4
    ·rw[(a (.inr (.inr (.inl M)))).2];simp[M]
    by_cases S:n.Kind=5
    ·rw[(a (.inr (.inr (.inr S)))).2];simp[S]
    simp only[zh G,zh K,zh M,zh S]
theorem TP{t:AL}(T:JU t){s:List UInt8}{p:Nat}{n:AN}(E:t.Ad[p]?=some n):Tm t s p=λi j=>
      if n.Kind=1 then ∃b:UInt8,s[i]?=some b/\Kp n.Set (b.toNat:Int)=true/\j=i+1
      else if n.Kind=6 then i=0/\j=i
      else if n.Kind=7 then i=s.length/\j=i
      else if n.Kind=2 then ∃k,Tm t s n.A.toNat i k/\Tm t s n.B.toNat k j
      else if n.Kind=3 then Tm t s n.A.toNat i j\/Tm t s n.B.toNat i j
      else if n.Kind=5 then Tm t s n.A.toNat i j
      else if n.Kind=4 then ∃c:Nat,n.Min<=(c:Int)/\(n.Max<0\/(c:Int)<=n.Max)/\PX (Tm t s n.A.toNat) c i j
      else j=i:=by
  have a:(n.Kind=2\/n.Kind=3\/n.Kind=4\/n.Kind=5)->OO t s p n.A.toNat=Tm t s n.A.toNat:=λF=>(Oa T s _ _ _ (OQ T E F) (yH _)).1;have b:(n.Kind=2\/n.Kind=3)->OO t s p n.B.toNat=Tm t s n.B.toNat:=λF=>(Oa T s _ _ _ (QS T E F) (yH _)).1;funext i j;unfold Tm at a b⊢;rw[OO,E];simp only[];by_cases G:n.Kind=2
  · rw[a (.inl G),b (.inl G)]
  by_cases K:n.Kind=3
  · rw[a (.inr (.inl K)),b (.inr K)]
  by_cases M:n.Kind=4
  · rw[a (.inr (.inr (.inl M)))];simp[M]
  by_cases S:n.Kind=5
  · rw[a (.inr (.inr (.inr S)))];simp[S]
  simp only[zh G,zh K,zh M,zh S]
theorem VT{t:AL}(T:JU t){p:Nat}{n:AN}(E:t.Ad[p]?=some n):wg t p=
      if n.Kind=2 then wg t n.A.toNat+wg t n.B.toNat
      else if n.Kind=3 then wg t n.A.toNat+wg t n.B.toNat+1
      else if n.Kind=4 then(if n.Max<0 then(wg t n.A.toNat+1)*(n.Min.toNat+1)else(wg t n.A.toNat+1)*n.Max.toNat+1)
      else if n.Kind=5 then wg t n.A.toNat
      else 1:=by
  have a:(n.Kind=2\/n.Kind=3\/n.Kind=4\/n.Kind=5)->OY t p n.A.toNat=wg t n.A.toNat:=λF=>(Oa T [] _ _ _ (OQ T E F) (yH _)).2;have b:(n.Kind=2\/n.Kind=3)->OY t p n.B.toNat=wg t n.B.toNat:=λF=>(Oa T [] _ _ _ (QS T E F) (yH _)).2;unfold wg at a b⊢;rw[OY,E];simp only[];by_cases G:n.Kind=2
  · rw[a (.inl G),b (.inl G)]
  by_cases K:n.Kind=3
  · rw[a (.inr (.inl K)),b (.inr K)]
  by_cases M:n.Kind=4
  · rw[a (.inr (.inr (.inl M)))];simp[M]
  by_cases S:n.Kind=5
  · rw[a (.inr (.inr (.inr S)))];simp[S]
  simp only[zh G,zh K,zh M,zh S]
def DS(c:Nat)(R:List UInt8->Nat->Nat->Prop)(n0:Nat)(l1:List AE)(e nx:Int):Prop:=
 ∀l:List AE,(∀q,n0<=q->q<l1.length->l[q]?=l1[q]?)->∀s:List UInt8,
  (∀n i k,MV l s n e i k->∃j m,R s i j/\MV l s m nx j k/\m+c<=n)/\
  (∀i j k m,i<=s.length->R s i j->MV l s m nx j k->∃n,MV l s n e i k)
theorem DS.Ul{c c':Nat}{R:List UInt8->Nat->Nat->Prop}{n0:Nat}{l1:List AE}{e nx:Int}(h:DS c R n0 l1 e nx)(hc:c'<=c):DS c' R n0 l1 e nx:=λl I s=>
 ⟨λn i k H=>by obtain⟨j,m,h1,G,K⟩:=(h l I s).1 n i k H;exact⟨j,m,h1,G,by omega⟩,(h l I s).2⟩
theorem DS.congr{c:Nat}{R R':List UInt8->Nat->Nat->Prop}{n0:Nat}{l1:List AE}{e nx:Int}(h:DS c R n0 l1 e nx)(hR:∀s i j,R s i j↔R' s i j):DS c R' n0 l1 e nx:=λl I s=>
 ⟨λn i k H=>by obtain⟨j,m,h1,G,K⟩:=(h l I s).1 n i k H;exact⟨j,m,(hR _ _ _).1 h1,G,K⟩,λi j k m J N H=>(h l I s).2 i j k m J ((hR _ _ _).2 N) H⟩
theorem DS.none(n0:Nat)(l1:List AE)(e:Int):DS 0 (λ_ i j=>j=i) n0 l1 e e:=λl _ s=>
 ⟨λn i k H=>⟨i,n,rfl,H,by omega⟩,λi j k m _ N H=>by obtain rfl:=N;exact⟨m,H⟩⟩
theorem DS.comp{c1 c2:Nat}{R1 R2:List UInt8->Nat->Nat->Prop}{n0 n1:Nat}{l1 l2:List AE}{e2 e1 nx:Int}(G:DS c1 R1 n1 l2 e2 e1)(h1:DS c2 R2 n0 l1 e1 nx)(E:n0<=n1)(h12:l1.length=n1)(H:∀q,q<n1->l2[q]?=l1[q]?)(hR:∀s i j,i<=s.length->R1 s i j->j<=s.length)(hle:n1<=l2.length):
  DS (c1+c2) (λs i k=>∃j,R1 s i j/\R2 s j k) n0 l2 e2 nx:=λl I s=>by
 have a2:=G l (λq q1 q2=>I q (by omega) q2) s;have a1:=h1 l (λq q1 q2=>(I q q1 (by omega)).trans (H q (by omega))) s;constructor
 ·intro n i k P;obtain⟨j,m,r1,p1,m1⟩:=a2.1 n i k P;obtain⟨j2,m2,r2,p2,m3⟩:=a1.1 m j k p1;exact⟨j2,m2,⟨j,r1,r2⟩,p2,by omega⟩
 ·rintro i j k m J ⟨j1,r1,r2⟩ P;obtain⟨n1,p1⟩:=a1.2 j1 j k m (hR _ _ _ J r1) r2 P;exact a2.2 i j1 k n1 J r1 p1
theorem MV.inv{l:List AE}{s:List UInt8}{n:Nat}{q:Int}{i k:Nat}(h:MV l s n q i k)(C:q≠0):∃m,n=m+1/\((∃q'∈Fm l (decide (i=0)) (decide (i=s.length)) q,MV l s m q' i k)\/∃b,s[i]?=some b/\∃q'∈IB l (b.toNat:Int) q,MV l s m q' (i+1) k):=by
 cases h with
 |stop _=>exact absurd rfl C
 |free h1 G=>exact⟨_,rfl,.inl ⟨_,h1,G⟩⟩
 |Ug h1 G K=>exact⟨_,rfl,.inr ⟨_,h1,_,G,K⟩⟩
theorem HN{l:List AE}{fr bk:Bool}{q:Nat}{a b:Int}{z:BB}(h:l[q]?=some ⟨2,a,b,z⟩):Fm l fr bk (q:Int)=[a,b]:=by
 unfold Fm;rw[zu,h];rfl
theorem O3{l:List AE}{c:Int}{q:Nat}{x:AE}(h:l[q]?=some x)(F:x.C2≠1):IB l c (q:Int)=[]:=by
 unfold IB;rw[zu,h];simp[F]
theorem PM{c1 c2:Nat}{R1 R2:List UInt8->Nat->Nat->Prop}{n0:Nat}{l1:List AE}{a b nx:Int}{z:BB}(hpos:1<=l1.length)(h1:DS c1 R1 n0 l1 a nx)(G:DS c2 R2 n0 l1 b nx)(E:n0<=l1.length):
  DS 1 (λs i j=>R1 s i j\/R2 s i j) n0 (l1++[⟨2,a,b,z⟩]) (l1.length:Int) nx:=λl I s=>by
 have C:l[l1.length]?=some ⟨2,a,b,z⟩:=by rw[I _ E (by simp)];simp
 have up:∀q,n0<=q->q<l1.length->l[q]?=l1[q]?:=λq q1 q2=>by rw[I q q1 (by simp;omega),List.getElem?_append_left q2]
 have f1:=h1 l up s;have f2:=G l up s;constructor
 ·intro n i k P;obtain⟨m,rfl,h|⟨b',_,q',D,_⟩⟩:=P.inv (by omega)
  ·obtain⟨q',D,H⟩:=h;rw[HN C]at D;rcases zP.1 D with rfl|D
   ·obtain⟨j,m2,r,p,hm⟩:=f1.1 _ _ _ H;exact⟨j,m2,.inl r,p,by omega⟩
   ·obtain rfl:=zw.1 D;obtain⟨j,m2,r,p,hm⟩:=f2.1 _ _ _ H;exact⟨j,m2,.inr r,p,by omega⟩
  ·rw[O3 C (by simp)]at D;cases D
 ·intro i j k m J N P;rcases N with N|N
  ·obtain⟨n,p⟩:=f1.2 i j k m J N P;exact⟨n+1,.free (by rw[HN C];simp) p⟩
  ·obtain⟨n,p⟩:=f2.2 i j k m J N P;exact⟨n+1,.free (by rw[HN C];simp) p⟩
theorem RY{R:List UInt8->Nat->Nat->Prop}{n0:Nat}{l2:List AE}{e nx:Int}{z:BB}(hpos:1<=n0)(E:n0<l2.length)(h:DS 1 R (n0+1) l2 e (n0:Int))(hR:∀s i j,i<=s.length->R s i j->j<=s.length):
  DS 1 (λs i j=>∃c,PX (R s) c i j) n0 (l2.set n0 ⟨2,e,nx,z⟩) (n0:Int) nx:=λl I s=>by
 have C:l[n0]?=some ⟨2,e,nx,z⟩:=by rw[I _ (zr _) (by simpa using E),List.getElem?_set_self E]
 have f:=h l (λq q1 q2=>by rw[I q (by omega) (by simpa using q2),List.getElem?_set_ne (by omega)]) s;constructor
 ·intro n
  induction n using Nat.strongRecOn with
  | _ n ih=>
   intro i k P;obtain⟨m,rfl,h|⟨b',_,q',D,_⟩⟩:=P.inv (by omega)
   ·obtain⟨q',D,H⟩:=h;rw[HN C]at D;rcases zP.1 D with rfl|D
    ·obtain⟨j,m2,r,p,hm⟩:=f.1 _ _ _ H;obtain⟨j2,m3,⟨c,r2⟩,p2,hm2⟩:=ih m2 (by omega) j k p;exact⟨j2,m3,⟨c+1,j,r,r2⟩,p2,by omega⟩
    ·obtain rfl:=zw.1 D;exact⟨i,m,⟨0,rfl⟩,H,by omega⟩
   ·rw[O3 C (by simp)]at D;cases D
 ·rintro i j k m J ⟨c,N⟩ P
  induction c generalizing i with
  |zero=>
   have N:j=i:=N;subst N;exact⟨m+1,.free (by rw[HN C];simp) P⟩
  |succ c ih=>
   obtain⟨j1,r1,r2⟩:=N;obtain⟨n1,p1⟩:=ih j1 (hR _ _ _ J r1) r2;obtain⟨n2,p2⟩:=f.2 i j1 k n1 J r1 p1;exact⟨n2+1,.free (by rw[HN C];simp) p2⟩
theorem LM{R:List UInt8->Nat->Nat->Prop}{l1:List AE}{x:AE}(hpos:1<=l1.length){nx:Int}
  (Y:∀(s:List UInt8) (i:Nat) (q':Int) (l:List AE),l[l1.length]?=some x->(q'∈Fm l (decide (i=0)) (decide (i=s.length)) (l1.length:Int)↔q'=nx/\R s i i))
  (he:∀(s:List UInt8) (i:Nat) (b:UInt8) (q':Int) (l:List AE),l[l1.length]?=some x->s[i]?=some b->(q'∈IB l (b.toNat:Int) (l1.length:Int)↔q'=nx/\R s i (i+1)))
  (hR:∀s i j,R s i j->j=i\/(j=i+1/\∃b,s[i]?=some b)):DS 1 R l1.length (l1++[x]) (l1.length:Int) nx:=λl I s=>by
 have C:l[l1.length]?=some x:=by rw[I _ (zr _) (by simp)];simp
 constructor
 ·intro n i k P;obtain⟨m,rfl,⟨q',D,H⟩|⟨b',U,q',D,H⟩⟩:=P.inv (by omega)
  ·obtain⟨rfl,r⟩:=(Y s i q' l C).1 D;exact⟨i,m,r,H,by omega⟩
  ·obtain⟨rfl,r⟩:=(he s i b' q' l C U).1 D;exact⟨i+1,m,r,H,by omega⟩
 ·intro i j k m J N P;rcases hR _ _ _ N with rfl|⟨rfl,b,W⟩
  ·exact⟨m+1,.free ((Y s j nx l C).2 ⟨rfl,N⟩) P⟩
  ·exact⟨m+1,.Ug W ((he s i b nx l C W).2 ⟨rfl,N⟩) P⟩
theorem N0{t:AL}(T:JU t)(s:List UInt8):∀(p i j:Nat),i<=s.length->Tm t s p i j->i<=j/\j<=s.length:=by
 intro p
 induction p using Nat.strongRecOn with
 | _ p ih=>
  intro i j J h;cases E:t.Ad[p]? with
  |none=>unfold Tm OO at h;rw[E]at h;exact h.elim
  | some n=>
   rw[TP T E]at h;split at h
   ·obtain⟨b,W,_,rfl⟩:=h;have:=(List.getElem?_eq_some_iff.1 W).1;omega
   split at h
   ·omega
   split at h
   ·omega
   split at h
   ·rename_i F;obtain⟨k,h1,G⟩:=h;have:=ih _ (OQ T E (.inl F)) i k J h1;have:=ih _ (QS T E (.inl F)) k j this.2 G;omega
   split at h
   ·rename_i F;rcases h with h|h
    ·exact ih _ (OQ T E (.inr (.inl F))) i j J h
    ·exact ih _ (QS T E (.inr F)) i j J h
   split at h
   ·rename_i F;exact ih _ (OQ T E (.inr (.inr (.inr F)))) i j J h
   split at h
   ·rename_i F;obtain⟨c,_,_,hc⟩:=h;have hA:=OQ T E (.inr (.inr (.inl F)));have key:∀(c i:Nat),i<=s.length->PX (Tm t s n.A.toNat) c i j->i<=j/\j<=s.length:=by
     intro c
     induction c with
     |zero=>intro i J Z;have Z:j=i:=Z;omega
     |succ c ihc=>
      rintro i J ⟨k,h1,G⟩;have a:=ih _ hA i k J h1;have b:=ihc k a.2 G;omega
    exact key c i J hc
   ·omega
end Go.Av.L
end
