/-
  Several texts in one.
-/
import Derived.Test.YtfgmnhjedmkpeaaDfaR
set_option linter.unusedSimpArgs false
/-
 A part.
-/
section
namespace Go.Av.L
open Go.Av Go.Lib
set_option linter.unusedVariables false
set_option linter.unusedSimpArgs false
def Fh(n:AF)(t:Int):Int:=if n.Max<0 then mn (t+1) n.Min else t+1
inductive Mt(ns:List AF)(s:List UInt8):Nat->Int->Nat->Nat->Prop where
 |empty {a:Nat} {n:AF} {t:Int} {i:Nat}:ns[a]?=some n->n.Kind=0->Mt ns s a t i i
 |one {a:Nat} {n:AF} {t:Int} {i:Nat} {b:UInt8}:ns[a]?=some n->n.Kind=1->s[i]?=some b->Ou n.Set (b.toNat:Int)=true->Mt ns s a t i (i+1)
 |front {a:Nat} {n:AF} {t:Int}:ns[a]?=some n->n.Kind=6->Mt ns s a t 0 0
 |back {a:Nat} {n:AF} {t:Int}:ns[a]?=some n->n.Kind=7->Mt ns s a t s.length s.length
 |Kr {a x:Nat} {n:AF} {t:Int} {i j:Nat}:ns[a]?=some n->n.Kind=3->n.A=x->Mt ns s x 0 i j->Mt ns s a t i j
 |Kw {a x:Nat} {n:AF} {t:Int} {i j:Nat}:ns[a]?=some n->n.Kind=3->n.B=x->Mt ns s x 0 i j->Mt ns s a t i j
 |group {a x:Nat} {n:AF} {t:Int} {i j:Nat}:ns[a]?=some n->n.Kind=5->n.A=x->Mt ns s x 0 i j->Mt ns s a t i j
 |cat {a x y:Nat} {n:AF} {t:Int} {i k j:Nat}:ns[a]?=some n->n.Kind=2->n.A=x->n.B=y->Mt ns s x 0 i k->Mt ns s y 0 k j->Mt ns s a t i j
 |GV {a:Nat} {n:AF} {t:Int} {i:Nat}:ns[a]?=some n->n.Kind=4->n.Min<=t->Mt ns s a t i i
 |E7 {a x:Nat} {n:AF} {t:Int} {i k j:Nat}:ns[a]?=some n->n.Kind=4->n.A=x->t≠n.Max->(k=i->t<n.Min)->Mt ns s x 0 i k->Mt ns s a (Fh n t) k j->Mt ns s a t i j
theorem Mt.le{ns:List AF}{s:List UInt8}{a:Nat}{t:Int}{i j:Nat}(m:Mt ns s a t i j):i<=j:=by
 induction m<;>omega
section
variable {ns:List AF} {s:List UInt8} {a:Nat} {nd:AF} {t:Int} {i j:Nat}
theorem Ws(C:ns[a]?=some nd)(F:nd.Kind=0):Mt ns s a t i j↔j=i:=by
 constructor
 ·intro m;cases m<;>simp_all
 ·rintro rfl;exact .empty C F
theorem WD(C:ns[a]?=some nd)(F:nd.Kind=6):Mt ns s a t i j↔i=0/\j=0:=by
 constructor
 ·intro m;cases m<;>simp_all
 ·rintro⟨rfl,rfl⟩;exact .front C F
theorem Wo(C:ns[a]?=some nd)(F:nd.Kind=7):Mt ns s a t i j↔i=s.length/\j=s.length:=by
 constructor
 ·intro m;cases m<;>simp_all
 ·rintro⟨rfl,rfl⟩;exact .back C F
theorem inv1(C:ns[a]?=some nd)(F:nd.Kind=1):Mt ns s a t i j↔j=i+1/\∃b,s[i]?=some b/\Ou nd.Set (b.toNat:Int)=true:=by
 constructor
 ·intro m;cases m<;>simp_all
 ·rintro⟨rfl,b,h1,D⟩;exact .one C F h1 D
theorem Vi{x y:Nat}(C:ns[a]?=some nd)(F:nd.Kind=3)(M:nd.A=x)(Y:nd.B=y):Mt ns s a t i j↔Mt ns s x 0 i j\/Mt ns s y 0 i j:=by
 constructor
 ·intro m;cases m with
  |Kr h k e m=>rw[C]at h;cases h;rw[M]at e;cases Int.ofNat.inj e;exact .inl m
  |Kw h k e m=>rw[C]at h;cases h;rw[Y]at e;cases Int.ofNat.inj e;exact .inr m
  |_=>simp_all
 ·rintro(m|m)
  ·exact .Kr C F M m
  ·exact .Kw C F Y m
theorem U2{x:Nat}(C:ns[a]?=some nd)(F:nd.Kind=5)(M:nd.A=x):Mt ns s a t i j↔Mt ns s x 0 i j:=by
 constructor
 ·intro m;cases m with
  |group h k e m=>rw[C]at h;cases h;rw[M]at e;cases Int.ofNat.inj e;exact m
  |_=>simp_all
 ·exact λm=>.group C F M m
theorem inv2{x y:Nat}(C:ns[a]?=some nd)(F:nd.Kind=2)(M:nd.A=x)(Y:nd.B=y):Mt ns s a t i j↔∃k,Mt ns s x 0 i k/\Mt ns s y 0 k j:=by
 constructor
 ·intro m;cases m with
  |cat h k e1 e2 m1 m2=>rw[C]at h;cases h;rw[M]at e1;rw[Y]at e2;cases Int.ofNat.inj e1;cases Int.ofNat.inj e2;exact⟨_,m1,m2⟩
  |_=>simp_all
 ·rintro⟨k,m1,m2⟩;exact .cat C F M Y m1 m2
theorem WJ{x:Nat}(C:ns[a]?=some nd)(F:nd.Kind=4)(M:nd.A=x):Mt ns s a t i j↔(nd.Min<=t/\j=i)\/(t≠nd.Max/\∃k,(k=i->t<nd.Min)/\Mt ns s x 0 i k/\Mt ns s a (Fh nd t) k j):=by
 constructor
 ·intro m;cases m with
  |GV h k e=>rw[C]at h;cases h;exact .inl ⟨e,rfl⟩
  |E7 h k e1 e2 e3 m1 m2=>rw[C]at h;cases h;rw[M]at e1;cases Int.ofNat.inj e1;exact .inr ⟨e2,_,e3,m1,m2⟩
  |_=>simp_all
 ·rintro(⟨h,rfl⟩|⟨h1,k,D,m1,m2⟩)
  ·exact .GV C F h
  ·exact .E7 C F M h1 D m1 m2
end
end Go.Av.L
end
/-
 A part.
-/
section
namespace Go.Av.L
open Go.Av Go.Lib
set_option linter.unusedVariables false
set_option linter.unusedSimpArgs false
section
variable {K V:Type} [DecidableEq K]
theorem Rx(m:List (K×V))(k:K)(v:V)(n:K):Jc (Li m k v) n=if n=k then some v else Jc m n:=by
 induction m with
 |nil=>simp[Li,Jc]
 | cons p m ih=>
  obtain⟨k',v'⟩:=p;unfold Li;by_cases h:k=k'
  ·subst h;simp only[if_true,Jc];by_cases D:n=k<;>simp[D]
  ·rw[zk h];simp only[Jc,ih];by_cases D:n=k'
   ·subst D;simp[Ne.symm h]
   ·simp[D]
end
open Classical in
noncomputable def IX(n:Nat)(P:Nat->Prop):List Bool:=(List.range n).map λj=>decide (P j)
theorem JH{n:Nat}{P:Nat->Prop}:(IX n P).length=n:=by simp[IX]
open Classical in
theorem Nr{n:Nat}{P:Nat->Prop}{j:Nat}(h:j<n):(IX n P)[j]?=some (decide (P j)):=by simp[IX,h]
open Classical in
theorem G4{n:Nat}{P:Nat->Prop}{j:Nat}(h:j<n):Fy (IX n P) (j:Int)=some (decide (P j)):=Dh (Nr h)
open Classical in
theorem PX{n:Nat}{P:Nat->Prop}{l:List Bool}(hl:l.length=n)(h:∀j,j<n->l[j]?=some (decide (P j))):l=IX n P:=by
 apply qq;intro j;by_cases E:j<n
 ·rw[h j E,Nr E]
 ·rw[List.getElem?_eq_none (by omega),List.getElem?_eq_none (by rw[JH];omega)]
theorem CX{n:Nat}{P Q:Nat->Prop}(h:∀j,j<n->(P j↔Q j)):IX n P=IX n Q:=by
 refine PX JH λj E=>?_;rw[Nr E];congr 1;exact decide_eq_decide.2 (h j E)
theorem Sw{n:Nat}:List.replicate n false=IX n λ_=>False:=by
 refine PX qO λj E=>?_;simp[E]
open Classical in
theorem Km{n:Nat}{P:Nat->Prop}{k:Nat}{b:Bool}(F:k<n):(IX n P).set k b=IX n λj=>if j=k then b=true else P j:=by
 refine PX (by rw[zp,JH]) λj E=>?_;rw[List.getElem?_set];by_cases h:k=j
 ·subst h;rw[zj rfl,zj (by rw[JH];exact F)];simp
 ·rw[zk h,Nr E];have h':¬j=k:=λe=>h e.symm;simp[h']
open Classical in
theorem Nk{n:Nat}{P Q:Nat->Prop}(R:n<=2000000):C5 (IX n P) (IX n Q)=some (IX n λj=>P j\/Q j):=by
 refine W.eq ?_;unfold C5;refine AP (W.mono (W.loop (λs=>∃i:Nat,i<=n/\s=(IX n λj=>P j\/(j<i/\Q j),(i:Int))) (λs=>(n - s.2).toNat) ⟨0,by omega,by rw[CX (λj _=>show P j↔P j\/(j<0/\Q j) from by simp)];rfl⟩ ?_ (Q:=λr=>r=IX n λj=>P j\/Q j)) λr X=>AG X);rintro _ ⟨i,hi,rfl⟩;unfold HV;simp only[];rw[JH];refine Bi (λhlt=>?_) λhge=>AG ?_
 ·have hi:i<n:=by omega
  rw[G4 hi,za,G4 hi,za,za,F3 (by omega),zA];refine AG ⟨⟨i+1,by omega,?_⟩,by simp only[];omega⟩;rw[Km hi];refine Prod.ext (CX λj E=>?_) rfl;by_cases e:j=i
  ·subst e;simp
  ·simp only[zk e];have:j<i+1↔j<i:=by omega
   rw[this]
 ·exact CX λj E=>by
   have:j<i:=by omega
   simp[this]
theorem Mt.hi{ns:List AF}{s:List UInt8}{a:Nat}{t:Int}{i j:Nat}(m:Mt ns s a t i j)(h:i<=s.length):j<=s.length:=by
 induction m with
 |one _ _ Y _=>have:=(List.getElem?_eq_some_iff.1 Y).1;omega
 |cat _ _ _ _ _ _ i1 i2=>exact i2 (i1 h)
 |E7 _ _ _ _ _ _ _ i1 i2=>exact i2 (i1 h)
 |Kr _ _ _ _ ih=>exact ih h
 |Kw _ _ _ _ ih=>exact ih h
 |group _ _ _ _ ih=>exact ih h
 |empty=>exact h
 |GV=>exact h
 |front=>exact h
 |back=>exact h
def Tn(ns:List AF)(a:Nat)(t:Int):Prop:=t=0\/∃n,ns[a]?=some n/\n.Kind=4/\0<=t/\t<=255/\(n.Max= -1\/t<=n.Max)
theorem Tn.le{ns:List AF}{a:Nat}{t:Int}(h:Tn ns a t):0<=t/\t<=255:=by
 rcases h with rfl|⟨_,_,_,h1,D,_⟩
 ·omega
 ·exact⟨h1,D⟩
theorem Qw{n:AF}{t:Int}(h1:0<=t)(D:t<=255):GG n t=some (Fh n t):=by
 unfold GG Fh;rw[Jr (by omega) (by omega),UH];split<;>rfl
theorem Tn.next{ns:List AF}{a:Nat}{t:Int}{n:AF}{i:Int}(h:Tn ns a t)(R:ns[a]?=some n)(F:n.Kind=4)(X:Nu n i)(hm:t≠n.Max):Tn ns a (Fh n t)/\(t<n.Min->Fh n t=t+1):=by
 obtain⟨_,_,r3,r4,r5⟩:=X.2.1 F;have h0:=h.le;have hm2:n.Max= -1\/t<=n.Max:=by
  rcases h with rfl|⟨m,h1,_,_,_,h3⟩
  ·omega
  ·rw[R]at h1;cases h1;exact h3
 unfold Fh mn;refine⟨.inr ⟨n,R,F,?_⟩,?_⟩
 ·split
  ·split<;>omega
  ·omega
 ·intro h;split
  ·split<;>omega
  ·rfl
def Mem(ns:List AF)(s:List UInt8)(told:List (AQ×List Bool)):Prop:=
 ∀(a:Nat) (t:Int) (i:Nat) l,Jc told ⟨(a:Int),t,(i:Int)⟩=some l->l=IX (s.length+1) (Mt ns s a t i)
theorem Mem.put{ns:List AF}{s:List UInt8}{told:List (AQ×List Bool)}(h:Mem ns s told){a:Nat}{t:Int}{i:Nat}{l:List Bool}(hl:l=IX (s.length+1) (Mt ns s a t i)):Mem ns s (Li told ⟨(a:Int),t,(i:Int)⟩ l):=by
 intro a' t' i' l' hv;rw[Rx]at hv;split at hv
 ·rename_i e;have e1:(a':Int)=a:=congrArg AQ.G0 e;have e2:t'=t:=congrArg AQ.HR e;have e3:(i':Int)=i:=congrArg AQ.at_ e;obtain rfl:a'=a:=by omega
  obtain rfl:i'=i:=by omega
  subst e2;cases hv;exact hl
 ·exact h a' t' i' l' hv
def ms(L a:Nat)(t:Int)(i:Nat):Nat:=a*((L+1)*257)+((L - i)*257+(256 - t).toNat)
theorem QF{L a x i k:Nat}{t:Int}(C:x<a)(hi:i<=L):ms L x 0 k+1<=ms L a t i:=by
 unfold ms;have h1:(x+1)*((L+1)*257)<=a*((L+1)*257):=zU _ C;have D:(x+1)*((L+1)*257)=x*((L+1)*257)+(L+1)*257:=qN _ _;have h3:(L - k)*257<=L*257:=zU _ (Nat.sub_le _ _);have h4:(L+1)*257=L*257+257:=qN _ _;have h5:(256 - (0:Int)).toNat=256:=rfl;omega
theorem V7{L a i k:Nat}{t t':Int}(h0:0<=t)(h1:t<=255)(D:0<=t')(h3:t'<=255)(F:k<=L)(h:i<k\/(k=i/\t'=t+1)):ms L a t' k+1<=ms L a t i:=by
 unfold ms;rcases h with h|⟨rfl,rfl⟩
 ·have h5:(L - k+1)*257<=(L - i)*257:=zU _ (by omega);have h6:(L - k+1)*257=(L - k)*257+257:=qN _ _;omega
 ·omega
def Vs(ns:List AF)(root:Int)(s:List UInt8)(S:Bv)(a:Nat)(t:Int)(i:Nat):Prop:=
 ∀told,Mem ns s told->W (S.Bc ⟨⟨ns,root⟩,s,told⟩ (a:Int) t (i:Int)) λr=>r.1=IX (s.length+1) (Mt ns s a t i)/\Mem ns s r.2
open Classical in
theorem VL{ns:List AF}{root:Int}(H:∀(i:Nat) n,ns[i]?=some n->Nu n i){s:List UInt8}(hs:s.length<=1000000):∀(c n a:Nat) (t:Int) (i:Nat),ms s.length a t i<=c->2*c+2<=n->a<ns.length->Tn ns a t->i<=s.length->Vs ns root s (Bn n) a t i:=by
 intro c
 induction c using Nat.strongRecOn with
 | _ c ih =>
  intro n a t i hc R M ht hi told J;obtain⟨k,rfl⟩:∃k,n=k+2:=⟨n - 2,by omega⟩;obtain⟨nd,N⟩:∃nd,ns[a]?=some nd:=⟨_,List.getElem?_eq_getElem M⟩;have hR:=H a nd N;have hT:=ht.le;have down:∀(x q:Nat),x<a->q<=s.length->∀m,k<=m->Vs ns root s (Bn m) x 0 q:=by
   intro x q C hq m hm;have:=QF (L:=s.length) (t:=t) (k:=q) C hi;exact ih (ms s.length x 0 q) (by omega) m x 0 q (zq _) (by omega) (by omega) (.inl rfl) hq
  show W (E1 (Bn (k+1)) _ _ _ _) _;unfold E1;simp only[];cases hf:Jc told ⟨(a:Int),t,(i:Int)⟩with
  |some v=>exact AG ⟨J a t i v hf,J⟩
  | none =>
   show W (F6 _ _) _;have hL:IntKind.i64.wrap ((s.length:Int)+1)=((s.length+1:Nat):Int):=F3 (by omega);rw[hL,zA];refine ES (zK ⟨by omega,by omega,by omega⟩) ?_;rw[Sw];refine AP (W.mono (Q:=λr=>r.1=IX (s.length+1) (Mt ns s a t i)/\Mem ns s r.2) ?_ λr X=>?_)
   rotate_left
   ·obtain⟨l,m⟩:=r;obtain⟨h1,D⟩:=X;simp only at h1 D;refine ES (zK (by rw[h1,JH];omega)) (AG ⟨h1,D.put h1⟩)
   rw[Dh N,za];have Z:i<s.length+1:=by omega
   rw[B3];by_cases k0:nd.Kind=0
   ·rw[zj k0,G4 Z,za,zA,Km Z];refine AG ⟨CX λj E=>?_,J⟩;rw[Ws N k0];by_cases e:j=i<;>simp[e]
   rw[zk k0,B3];by_cases k1:nd.Kind=1
   ·rw[zj k1];refine AP (W.mono (Q:=λb=>b=true↔∃b,s[i]?=some b/\Ou nd.Set (b.toNat:Int)=true) ?_ λb Y=>?_)
    ·refine Bi (λhlt=>?_) λhge=>AG ?_
     ·have hlt':i<s.length:=by omega
      have Y:=QS s[i];rw[P9 hlt',za,has_eq _ Y.1 Y.2,za];refine AG ?_;rw[List.getElem?_eq_getElem hlt'];simp
     ·rw[List.getElem?_eq_none (by omega)];simp
    ·refine Ap (λhbt=>?_) λhbf=>AG ⟨CX λj E=>?_,J⟩
     ·obtain⟨c,hc1,hc2⟩:=Y.1 hbt;have hlt:=(List.getElem?_eq_some_iff.1 hc1).1;rw[F3 (by omega),G4 (show i+1<s.length+1 by omega),za,zA,Km (by omega)];refine AG ⟨CX λj E=>?_,J⟩;rw[inv1 N k1];by_cases e:j=i+1
      ·rw[zj e];exact⟨λ_=>⟨e,c,hc1,hc2⟩,λ_=>rfl⟩
      ·rw[zk e];exact⟨λh=>h.elim,λh=>e h.1⟩
     ·rw[inv1 N k1];refine⟨λh=>h.elim,λh=>?_⟩;rw[Y.2 h.2]at hbf;cases hbf
   rw[zk k1,B3];by_cases k6:nd.Kind=6
   ·rw[zj k6,G4 Z,za,zA,Km Z];refine AG ⟨CX λj E=>?_,J⟩;rw[WD N k6];by_cases e:j=i
    ·subst e;simp
    ·simp only[zk e,false_iff];omega
   rw[zk k6,B3];by_cases k7:nd.Kind=7
   ·rw[zj k7,G4 Z,za,zA,Km Z];refine AG ⟨CX λj E=>?_,J⟩;rw[Wo N k7];by_cases e:j=i
    ·subst e;rw[zj rfl,zT];omega
    ·simp only[zk e,false_iff];omega
   rw[zk k7,B3];by_cases k3:nd.Kind=3
   ·rw[zj k3];obtain⟨a1,a2,b1,b2⟩:=hR.1 (.inr k3);obtain⟨x,C⟩:=zi a1;obtain⟨y,hy⟩:=zi b1;rw[C,hy];refine AP ((down x i (by omega) hi (k+1) (by omega) told J).mono ?_);rintro⟨l1,m1⟩ ⟨rfl,h1⟩;simp only at h1;simp only[];rw[Nk (by omega),za];refine AP ((down y i (by omega) hi (k+1) (by omega) m1 h1).mono ?_);rintro⟨l2,m2⟩ ⟨rfl,D⟩;simp only at D;simp only[];rw[Nk (by omega),za];refine AG ⟨CX λj E=>?_,D⟩;rw[Vi N k3 C hy];simp
   rw[zk k3,B3];by_cases k5:nd.Kind=5
   ·rw[zj k5];obtain⟨a1,a2⟩:=hR.2.2 k5;obtain⟨x,C⟩:=zi a1;rw[C];refine AP ((down x i (by omega) hi (k+1) (by omega) told J).mono ?_);rintro⟨l1,m1⟩ ⟨rfl,h1⟩;simp only at h1;simp only[];rw[Nk (by omega),za];refine AG ⟨CX λj E=>?_,h1⟩;rw[U2 N k5 C];simp
   rw[zk k5,B3];by_cases k2:nd.Kind=2
   ·rw [zj k2];obtain⟨a1,a2,b1,b2⟩:=hR.1 (.inl k2);obtain⟨x,C⟩:=zi a1;obtain⟨y,hy⟩:=zi b1;rw[C];refine AP ((down x i (by omega) hi (k+1) (by omega) told J).mono ?_);rintro⟨l1,m1⟩ ⟨rfl,h1⟩;simp only at h1;simp only[];refine AP (W.mono (W.loop (λu=>∃p:Nat,p<=s.length+1/\u.2.2=(p:Int)/\Mem ns s u.1/\u.2.1=IX (s.length+1) λj=>∃q,q<p/\Mt ns s x 0 i q/\Mt ns s y 0 q j) (λu=>(s.length+1 - u.2.2).toNat) ⟨0,by omega,rfl,h1,CX λj _=>by simp⟩ ?_ (Q:=λr=>Mem ns s r.1/\r.2=IX (s.length+1) (Mt ns s a t i))) λr X=>by obtain⟨m,l⟩:=r;exact AG ⟨X.2,X.1⟩);rintro⟨m,l,p'⟩ ⟨p,hp,rfl,hm,rfl⟩;simp only at hm;unfold GU;simp only[];rw[JH];refine Bi (λhlt=>?_) λhge=>AG ⟨hm,CX λj E=>?_⟩
    ·have hp1:p<s.length+1:=by omega
     rw[G4 hp1,za];refine AP (W.mono (Q:=λr=>Mem ns s r.1/\r.2=IX (s.length+1) λj=>∃q,q<p+1/\Mt ns s x 0 i q/\Mt ns s y 0 q j) ?_ λr X=>?_)
     ·refine Bi (λO=>?_) λO=>AG ⟨hm,CX λj E=>?_⟩
      ·rw[hy];refine AP ((down y p (by omega) (by omega) (k+1) (by omega) m hm).mono ?_);rintro⟨l2,m2⟩ ⟨rfl,D⟩;simp only at D;simp only[];rw[Nk (by omega),za];refine AG ⟨D,CX λj E=>?_⟩;constructor
       ·rintro(⟨q,q1,q2,q3⟩|q)
        ·exact⟨q,by omega,q2,q3⟩
        ·exact⟨p,by omega,O,q⟩
       ·rintro⟨q,q1,q2,q3⟩;by_cases e:q=p
        ·subst e;exact .inr q3
        ·exact .inl ⟨q,by omega,q2,q3⟩
      ·constructor
       ·rintro⟨q,q1,q2⟩;exact⟨q,by omega,q2⟩
       ·rintro⟨q,q1,q2,q3⟩;by_cases e:q=p
        ·subst e;exact(O q2).elim
        ·exact⟨q,by omega,q2,q3⟩
     ·obtain⟨m3,l3⟩:=r;obtain⟨r1,r2⟩:=X;simp only at r1 r2;refine AG ⟨⟨p+1,by omega,by simp only[];exact F3 (by omega),r1,r2⟩,?_⟩;simp only[];rw[F3 (by omega)];omega
    ·rw[inv2 N k2 C hy];constructor
     ·rintro⟨q,q1,q2,q3⟩;exact⟨q,q2,q3⟩
     ·rintro⟨q,q2,q3⟩;have:=q2.hi hi;exact⟨q,by omega,q2,q3⟩
   rw[zk k2,B3];by_cases k4:nd.Kind=4
   ·rw [zj k4];obtain⟨a1,a2,r1,r2,r3⟩:=hR.2.1 k4;obtain⟨x,C⟩:=zi a1;refine AP (W.mono (Q:=λr=>r.2=IX (s.length+1) (Mt ns s a t i)/\Mem ns s r.1) ?_ λr X=>by obtain⟨m,l⟩:=r;exact AG X);show W (DH (Bn k) _ _ _ _ _) _;unfold DH;simp only[];rw[Dh N,za];refine AP (W.mono (Q:=λl=>l=IX (s.length+1) λj=>nd.Min<=t/\j=i) (Bi (λhge=>?_) λhlt=>AG (CX λj E=>?_)) λl2 hl2=>?_)
    ·rw[G4 Z,za,zA,Km Z];refine AG (CX λj E=>?_);by_cases e:j=i
     ·rw[zj e];exact⟨λ_=>⟨hge,e⟩,λ_=>rfl⟩
     ·rw[zk e];exact⟨λh=>h.elim,λh=>e h.2⟩
    ·exact⟨λh=>h.elim,λh=>hlt h.1⟩
    subst hl2;rw[B3];by_cases hmx:t=nd.Max
    ·rw[zj hmx];refine AG ⟨CX λj E=>?_,J⟩;rw[WJ N k4 C];constructor
     ·exact λh=>.inl h
     ·rintro(h|h)
      ·exact h
      ·exact(h.1 hmx).elim
    rw[zk hmx,C];obtain⟨tn,tn2⟩:=ht.next N k4 hR hmx;have hT2:=tn.le;refine AP ((down x i (by omega) hi k (by omega) told J).mono ?_);rintro⟨l1,m1⟩ ⟨rfl,h1⟩;simp only at h1;simp only[];refine AP (W.mono (W.loop (λu=>∃p:Nat,p<=s.length+1/\u.2.2=(p:Int)/\Mem ns s u.1/\u.2.1=IX (s.length+1) λj=>(nd.Min<=t/\j=i)\/∃q,q<p/\(q=i->t<nd.Min)/\Mt ns s x 0 i q/\Mt ns s a (Fh nd t) q j) (λu=>(s.length+1 - u.2.2).toNat) ⟨0,by omega,rfl,h1,CX λj _=>by simp⟩ ?_ (Q:=λr=>Mem ns s r.1/\r.2=IX (s.length+1) (Mt ns s a t i))) λr X=>by obtain⟨m,l⟩:=r;exact AG ⟨X.2,X.1⟩);rintro⟨m,l,p'⟩ ⟨p,hp,rfl,hm,rfl⟩;simp only at hm;unfold Eh;simp only[];rw[JH];refine Bi (λhlt=>?_) λhge=>AG ⟨hm,CX λj E=>?_⟩
    ·have hp1:p<s.length+1:=by omega
     rw[G4 hp1,za];refine AP (W.mono (Q:=λr=>Mem ns s r.1/\r.2=IX (s.length+1) λj=>(nd.Min<=t/\j=i)\/∃q,q<p+1/\(q=i->t<nd.Min)/\Mt ns s x 0 i q/\Mt ns s a (Fh nd t) q j) ?_ λr X=>?_)
     ·refine Ap (λO=>?_) λO=>AG ⟨hm,CX λj E=>?_⟩
      ·simp only[zg,zG,zx]at O;obtain⟨O,hx2⟩:=O;have hle:=O.le;have hms:ms s.length a (Fh nd t) p+1<=ms s.length a t i:=by
        refine V7 hT.1 hT.2 hT2.1 hT2.2 (by omega) ?_;by_cases e:i<p
        ·exact .inl e
        ·exact .inr ⟨by omega,tn2 (by omega)⟩
       rw[Qw hT.1 hT.2,za];refine AP ((ih (ms s.length a (Fh nd t) p) (by omega) k a (Fh nd t) p (zq _) (by omega) M tn (by omega) m hm).mono ?_);rintro⟨l2,m2⟩ ⟨rfl,D⟩;simp only at D;simp only[];rw[Nk (by omega),za];refine AG ⟨D,CX λj E=>?_⟩;constructor
       ·rintro((h|⟨q,q1,q2⟩)|q)
        ·exact .inl h
        ·exact .inr ⟨q,by omega,q2⟩
        ·exact .inr ⟨p,by omega,by omega,O,q⟩
       ·rintro(h|⟨q,q1,q2,q3,q4⟩)
        ·exact .inl (.inl h)
        ·by_cases e:q=p
         ·subst e;exact .inr q4
         ·exact .inl (.inr ⟨q,by omega,q2,q3,q4⟩)
      ·constructor
       ·rintro(h|⟨q,q1,q2⟩)
        ·exact .inl h
        ·exact .inr ⟨q,by omega,q2⟩
       ·rintro(h|⟨q,q1,q2,q3,q4⟩)
        ·exact .inl h
        ·by_cases e:q=p
         ·subst e;have hle:=q3.le;have:(decide (Mt ns s x 0 i q)&&(decide ((q:Int)>(i:Int))||decide (t<nd.Min)))=true:=by
           simp only[zg,zG,zx];refine⟨q3,?_⟩;by_cases e:q=i
           ·exact .inr (q2 e)
           ·exact .inl (by omega)
          rw[this]at O;cases O
         ·exact .inr ⟨q,by omega,q2,q3,q4⟩
     ·obtain⟨m3,l3⟩:=r;obtain⟨r1,r2⟩:=X;simp only at r1 r2;refine AG ⟨⟨p+1,by omega,by simp only[];exact F3 (by omega),r1,r2⟩,?_⟩;simp only[];rw[F3 (by omega)];omega
    ·rw[WJ N k4 C];constructor
     ·rintro(h|⟨q,q1,q2,q3,q4⟩)
      ·exact .inl h
      ·exact .inr ⟨hmx,q,q2,q3,q4⟩
     ·rintro(h|⟨_,q,q2,q3,q4⟩)
      ·exact .inl h
      ·have:=q3.hi hi;exact .inr ⟨q,by omega,q2,q3,q4⟩
   ·rw[zk k4];refine AG ⟨CX λj E=>?_,J⟩;refine⟨λh=>h.elim,λm=>?_⟩;cases m<;>simp_all
theorem MI{ns:List AF}{root:Int}(H:∀(i:Nat) n,ns[i]?=some n->Nu n i)(hl:ns.length<=1024){s:List UInt8}(hs:s.length<=1000000){a:Nat}{t:Int}{i:Nat}(M:a<ns.length)(ht:Tn ns a t)(hi:i<=s.length){told:List (AQ×List Bool)}(J:Mem ns s told):
  W (Bc ⟨⟨ns,root⟩,s,told⟩ (a:Int) t (i:Int)) λr=>r.1=IX (s.length+1) (Mt ns s a t i)/\Mem ns s r.2:=by
 refine VL H hs _ Gp a t i (zq _) ?_ M ht hi told J;rw[N1];unfold ms;have hT:=ht.le;have h1:a*((s.length+1)*257)<=1024*(1000001*257):=Nat.mul_le_mul (by omega) (zU _ (by omega));have D:(s.length - i)*257<=1000000*257:=zU _ (by omega);omega
end Go.Av.L
end
/-
 A part.
-/
section
namespace Go.Av.L
open Go.Av Go.Lib
set_option linter.unusedVariables false
set_option linter.unusedSimpArgs false
structure Cut(ns:List AF)(s:List UInt8)(f:Nat)(a:Nat)(t:Int)(i j k:Nat):Prop where
 lo:i<=k
 hi:k<=j
 is:i<k->Mt ns s f 0 i k/\Mt ns s a t k j
 top:∀q,k<q->q<=j->¬(Mt ns s f 0 i q/\Mt ns s a t q j)
inductive Lg(ns:List AF)(s:List UInt8):Nat->Int->Nat->Nat->List (Int×Nat×Nat)->Prop where
 |leaf {a:Nat} {n:AF} {t:Int} {i j:Nat}:ns[a]?=some n->n.Kind≠2->n.Kind≠3->n.Kind≠4->n.Kind≠5->Lg ns s a t i j []
 |group {a x:Nat} {n:AF} {t:Int} {i j:Nat} {l}:ns[a]?=some n->n.Kind=5->n.A=x->Lg ns s x 0 i j l->Lg ns s a t i j ((n.BO,i,j)::l)
 |Kr {a x:Nat} {n:AF} {t:Int} {i j:Nat} {l}:ns[a]?=some n->n.Kind=3->n.A=x->Mt ns s x 0 i j->Lg ns s x 0 i j l->Lg ns s a t i j l
 |Kw {a x y:Nat} {n:AF} {t:Int} {i j:Nat} {l}:ns[a]?=some n->n.Kind=3->n.A=x->n.B=y->¬Mt ns s x 0 i j->Lg ns s y 0 i j l->Lg ns s a t i j l
 |cat {a x y:Nat} {n:AF} {t:Int} {i j k:Nat} {l1 l2}:ns[a]?=some n->n.Kind=2->n.A=x->n.B=y->Cut ns s x y 0 i j k->Lg ns s x 0 i k l1->Lg ns s y 0 k j l2->Lg ns s a t i j (l1++l2)
 |GV {a:Nat} {n:AF} {t:Int} {i:Nat}:ns[a]?=some n->n.Kind=4->n.Min<=t->Lg ns s a t i i []
 |E7 {a x:Nat} {n:AF} {t:Int} {i j k:Nat} {l1 l2}:ns[a]?=some n->n.Kind=4->n.A=x->t≠n.Max->(i=j->t<n.Min)->Cut ns s x a (Fh n t) i j k->Lg ns s x 0 i k l1->Lg ns s a (Fh n t) k j l2->Lg ns s a t i j (l1++l2)
end Go.Av.L
end
/-
 A part.
-/
section
namespace Go.Av.L
open Go.Av Go.Lib
set_option linter.unusedVariables false
set_option linter.unusedSimpArgs false
section
variable {ns:List AF} {root:Int} {s:List UInt8}
theorem Cut.uniq{f a:Nat}{t:Int}{i j k k':Nat}(h:Cut ns s f a t i j k)(h':Cut ns s f a t i j k'):k=k':=by
 rcases qv k k' with e|e|e
 ·exact(h.top k' e h'.hi (h'.is (by have:=h.lo;omega))).elim
 ·exact e
 ·exact(h'.top k e h.hi (h.is (by have:=h'.lo;omega))).elim
open Classical in
theorem QK(H:∀(i:Nat) n,ns[i]?=some n->Nu n i)(hl:ns.length<=1024)(hs:s.length<=1000000){f a:Nat}{t:Int}{i j:Nat}(hf:f<ns.length)(M:a<ns.length)(ht:Tn ns a t)(I:i<=j)(E:j<=s.length){told:List (AQ×List Bool)}(J:Mem ns s told)(nd tn:Int):
  W (Ea ⟨⟨ns,root⟩,s,told⟩ (f:Int) (a:Int) t ⟨nd,tn,(i:Int),(j:Int)⟩ (i:Int)) λr=>∃k:Nat,r.1=(k:Int)/\Cut ns s f a t i j k/\Mem ns s r.2:=by
 unfold Ea;refine AP ((MI H hl hs hf (.inl rfl) (by omega:i<=s.length) J).mono ?_);rintro⟨l1,m1⟩ ⟨rfl,h1⟩;simp only at h1;simp only[]
 refine AP (W.mono (W.loop (λu=>∃p:Nat,u.2=(p:Int)/\i<=p/\p<=j/\Mem ns s u.1/\∀q,p<q->q<=j->¬(Mt ns s f 0 i q/\Mt ns s a t q j)) (λu=>u.2.toNat) ⟨j,rfl,I,zq _,h1,λq h1 D=>by omega⟩ ?_ (Q:=λo=>match o with
  | .inl m=>Mem ns s m/\∀q,i<q->q<=j->¬(Mt ns s f 0 i q/\Mt ns s a t q j)
  | .inr (m,k')=>∃k:Nat,k'=(k:Int)/\Cut ns s f a t i j k/\Mem ns s m)) λo ho=>?_)
 ·rintro⟨m,p'⟩ ⟨p,hp,hp1,hp2,hm,hno⟩;simp only at hp hm;subst hp;unfold Gv;simp only[];refine Bi (λhgt=>?_) λhle=>AG ⟨hm,λq h1 D=>hno q (by omega) D⟩;rw[G4 (show p<s.length+1 by omega),za];refine AP (W.mono (Q:=λr=>Mem ns s r.1/\(r.2=true↔Mt ns s f 0 i p/\Mt ns s a t p j)) ?_ λr X=>?_)
  ·refine Bi (λC=>?_) λC=>AG ⟨hm,by simp[C]⟩;refine AP ((MI H hl hs M ht (by omega:p<=s.length) hm).mono ?_);rintro⟨l2,m2⟩ ⟨rfl,D⟩;simp only at D;simp only[];rw[G4 (show j<s.length+1 by omega),za];exact AG ⟨D,by simp[C]⟩
  ·obtain⟨m2,b⟩:=r;obtain⟨r1,r2⟩:=X;simp only at r1 r2;simp only[];refine Ap (λY=>AG ⟨p,rfl,⟨hp1,hp2,λ_=>r2.1 Y,hno⟩,r1⟩) λY=>?_;rw[Jr (by omega) (by omega)];refine AG ⟨⟨p - 1,by simp only[];omega,by omega,by omega,r1,λq q1 q2=>?_⟩,by simp only[];omega⟩;by_cases e:q=p
   ·subst e;intro h;rw[r2.2 h]at Y;cases Y
   ·exact hno q (by omega) q2
 ·cases o with
  |inl m=>exact AG ⟨i,rfl,⟨zq _,I,λh=>absurd h (Nat.lt_irrefl _),ho.2⟩,ho.1⟩
  |inr r=>
   obtain⟨m,k'⟩:=r;exact AG ho
def LU(out:List Ad)(l:List (Int×Nat×Nat)):List Ad:=l.foldl (λo g=>o.set g.1.toNat ⟨(g.2.1:Int),(g.2.2:Int),true⟩) out
theorem PI(l:List (Int×Nat×Nat)):∀out,(LU out l).length=out.length:=by
 induction l with
 |nil=>exact λ_=>rfl
 |cons g l ih=>
  intro out;show(LU (out.set _ _) l).length=_;rw[ih,zp]
theorem Qx(out:List Ad)(l1 l2:List (Int×Nat×Nat)):LU out (l1++l2)=LU (LU out l1) l2:=List.foldl_append
theorem O6{α:Type}{st:List α}{x:α}(h:st.length<=2000000):Fy (st++[x]) (IntKind.i64.wrap (((st++[x]).length:Int) - 1))=some x:=by
 have e:IntKind.i64.wrap (((st++[x]).length:Int) - 1)=(st.length:Int):=by
  rw[zH,yg,Jr (by omega) (by omega)];omega
 rw[e];exact Dh (by simp)
theorem Mw{α:Type}{st:List α}{x:α}(h:st.length<=2000000):Pe (st++[x]) none (some (IntKind.i64.wrap (((st++[x]).length:Int) - 1)))=some st:=by
 have e:IntKind.i64.wrap (((st++[x]).length:Int) - 1)=(st.length:Int):=by
  rw[zH,yg,Jr (by omega) (by omega)];omega
 rw[e,Vk (by simp),qh]
theorem Mz{α:Type}{st:List α}{x:α}:decide (((st++[x]).length:Int)>0)=true:=by
 rw[zH,yg];exact zK (by omega)
noncomputable abbrev NG (ns:List AF) (root:Int) (s:List UInt8) (told:List (AQ×List Bool)):=BQ ⟨⟨ns,root⟩,s,told⟩
open Classical in
theorem WO(H:∀(i:Nat) n,ns[i]?=some n->Nu n i)(hl:ns.length<=1024)(hs:s.length<=1000000)(told0:List (AQ×List Bool)){a:Nat}{t:Int}{i j:Nat}{l:List (Int×Nat×Nat)}(h:Lg ns s a t i j l):
  ∀told st out,Mem ns s told->a<ns.length->Tn ns a t->i<=j->j<=s.length->st.length+a<=1000000->(∀g∈l,0<=g.1/\g.1<(out.length:Int))->
   ∃told',Av.loop (NG ns root s told0) (told,st++[⟨(a:Int),t,(i:Int),(j:Int)⟩],out)=Av.loop (NG ns root s told0) (told',st,LU out l)/\Mem ns s told':=by
 induction h with
 |@leaf a n t i j R D h3 h4 h5=>
  intro told st out J M ht I E hst hg;refine⟨told,?_,J⟩;refine H8 ?_;unfold NG BQ;simp only[];rw[Mz,BL,O6 (by omega),za,Mw (by omega),za];simp only[];rw[Dh R,za,B3,zk h5,B3,zk h3,B3,zk D,B3,zk h4];rfl
 |@group a x n t i j l R F C hlg ih=>
  intro told st out J M ht I E hst hg;have hR:=(H a n R).2.2 F;have hg0:=hg (n.BO,i,j) (by simp);simp only at hg0;obtain⟨told',e,hM'⟩:=ih told st (out.set n.BO.toNat ⟨(i:Int),(j:Int),true⟩) J (by omega) (.inl rfl) I E (by omega) (λg U=>by rw[zp];exact hg g (by simp[U]));refine⟨told',?_,hM'⟩;refine Eq.trans (H8 ?_) e;unfold NG BQ;simp only[];rw[Mz,BL,O6 (by omega),za,Mw (by omega),za];simp only[];rw[Dh R,za,B3,zj F];unfold Eu;obtain⟨G,hG⟩:=zi hg0.1;rw[hG]at hg0⊢;rw[E8 (show G<out.length by omega),za,za,Hh (by simp;omega) (by simp;omega),Ha,C]
 |@Kr a x n t i j l R F C hm hlg ih=>
  intro told st out J M ht I E hst hg;obtain⟨a1,a2,b1,b2⟩:=(H a n R).1 (.inr F);obtain⟨⟨l1,m1⟩,e1,h1,D⟩:=MI (root:=root) H hl hs (show x<ns.length by omega) (.inl rfl) (show i<=s.length by omega) J;simp only at h1 D;subst h1;obtain⟨told',e,hM'⟩:=ih m1 st out D (by omega) (.inl rfl) I E (by omega) hg;refine⟨told',?_,hM'⟩;refine Eq.trans (H8 ?_) e;unfold NG BQ;simp only[];rw[Mz,BL,O6 (by omega),za,Mw (by omega),za];simp only[];rw[Dh R,za,B3,zk (by omega),B3,zj F,C,e1,za];simp only[];rw[G4 (show j<s.length+1 by omega),za,zK hm,zI,Ak,za];simp only[];rw[Hh (by simp;omega) (by simp;omega),Ha]
 |@Kw a x y n t i j l R F C hy hm hlg ih=>
  intro told st out J M ht I E hst hg;obtain⟨a1,a2,b1,b2⟩:=(H a n R).1 (.inr F);obtain⟨⟨l1,m1⟩,e1,h1,D⟩:=MI (root:=root) H hl hs (show x<ns.length by omega) (.inl rfl) (show i<=s.length by omega) J;simp only at h1 D;subst h1;obtain⟨told',e,hM'⟩:=ih m1 st out D (by omega) (.inl rfl) I E (by omega) hg;refine⟨told',?_,hM'⟩;refine Eq.trans (H8 ?_) e;unfold NG BQ;simp only[];rw[Mz,BL,O6 (by omega),za,Mw (by omega),za];simp only[];rw[Dh R,za,B3,zk (by omega),B3,zj F,C,hy,e1,za];simp only[];rw[G4 (show j<s.length+1 by omega),za,zN hm,yK,BL,za];simp only[];rw[Hh (by simp;omega) (by simp;omega),Ha]
 |@cat a x y n t i j k l1 l2 R F C hy hc hlg1 hlg2 ih1 ih2=>
  intro told st out J M ht I E hst hg;obtain⟨a1,a2,b1,b2⟩:=(H a n R).1 (.inl F);obtain⟨⟨k',m1⟩,e1,k2,h1,D,h3⟩:=QK (root:=root) H hl hs (show x<ns.length by omega) (show y<ns.length by omega) (.inl rfl) I E J (a:Int) t;simp only at h1 h3;obtain rfl:=hc.uniq D;subst h1;have c1:=hc.lo;have c2:=hc.hi;obtain⟨m2,e2,hM2⟩:=ih1 m1 (st++[⟨(y:Int),0,(k:Int),(j:Int)⟩]) out h3 (by omega) (.inl rfl) c1 (by omega) (by simp;omega) (λg U=>hg g (by simp[U]));obtain⟨m3,e3,hM3⟩:=ih2 m2 st (LU out l1) hM2 (by omega) (.inl rfl) c2 E (by omega) (λg U=>by rw[PI];exact hg g (by simp[U]));refine⟨m3,?_,hM3⟩;rw[Qx];refine Eq.trans (H8 ?_) (e2.trans e3);unfold NG BQ;simp only[];rw[Mz,BL,O6 (by omega),za,Mw (by omega),za];simp only[];rw[Dh R,za,B3,zk (by omega),B3,zk (by omega),B3,zj F,C,hy,e1,za];simp only[];rw[Hh (by simp;omega) (by simp;omega),Ha,zR];rfl
 |@GV a n t i R F hm=>
  intro told st out J M ht I E hst hg;refine⟨told,?_,J⟩;refine H8 ?_;unfold NG BQ;simp only[];rw[Mz,BL,O6 (by omega),za,Mw (by omega),za];simp only[];rw[Dh R,za,B3,zk (by omega),B3,zk (by omega),B3,zk (by omega),B3,zj F,zK (show t>=n.Min from hm),Bool.true_and,beq_self_eq_true,BL];rfl
 | @E7 a x n t i j k l1 l2 R F C hmx hmi hc hlg1 hlg2 ih1 ih2=>
  intro told st out J M ht I E hst hg;obtain⟨a1,a2,_⟩:=(H a n R).2.1 F;have hT:=ht.le;have tn:=(ht.next R F (H a n R) hmx).1;obtain⟨⟨k',m1⟩,e1,k2,h1,D,h3⟩:=QK (root:=root) H hl hs (show x<ns.length by omega) M tn I E J (a:Int) t;simp only at h1 h3;obtain rfl:=hc.uniq D;subst h1;have c1:=hc.lo;have c2:=hc.hi;obtain⟨m2,e2,hM2⟩:=ih1 m1 (st++[⟨(a:Int),Fh n t,(k:Int),(j:Int)⟩]) out h3 (by omega) (.inl rfl) c1 (by omega) (by simp;omega) (λg U=>hg g (by simp[U]));obtain⟨m3,e3,hM3⟩:=ih2 m2 st (LU out l1) hM2 M tn c2 E (by omega) (λg U=>by rw[PI];exact hg g (by simp[U]));refine⟨m3,?_,hM3⟩;rw[Qx];refine Eq.trans (H8 ?_) (e2.trans e3);have Y:(decide (t>=n.Min)&&((i:Int)==(j:Int)))=false:=by
   rw[yB];by_cases e:i=j
   ·have:=hmi e;exact .inl (zN (by omega))
   ·exact .inr (beq_eq_false_iff_ne.2 (by omega))
  unfold NG BQ;simp only[];rw[Mz,BL,O6 (by omega),za,Mw (by omega),za];simp only[];rw[Dh R,za,B3,zk (by omega),B3,zk (by omega),B3,zk (by omega),B3,zj F,Y,Ak,Qw hT.1 hT.2,za,C,e1,za];simp only[];rw[Hh (by simp;omega) (by simp;omega),Ha,zR];rfl
open Classical in
theorem UA{a:Nat}(X:CI ⟨ns,(a:Int)⟩=some true)(hs:s.length<=1000000){G:Nat}(hG:EX ⟨ns,(a:Int)⟩=some (G:Int))(hG2:G<=1000000){i j:Nat}(I:i<=j)(E:j<=s.length)(hm:Mt ns s a 0 i j){l:List (Int×Nat×Nat)}(h:Lg ns s a 0 i j l)(hg:∀g∈l,0<=g.1/\g.1<=(G:Int)):
  FT ⟨ns,(a:Int)⟩ s (i:Int) (j:Int)=some (LU ((List.replicate (G+1) ⟨0,0,false⟩).set 0 ⟨(i:Int),(j:Int),true⟩) l,true):=by
 have T:UC ⟨ns,(a:Int)⟩:=by
  obtain⟨b,e,q⟩:=Tg ⟨ns,(a:Int)⟩;rw[X]at e;cases e;exact q rfl
 have hl:ns.length<=1024:=T.len;have M:a<ns.length:=by have h1:=T.root.2;exact Int.ofNat_lt.1 h1
 unfold FT;rw[X,za,zI,yA,zN (by omega),yA,zN (by omega),yA,zN (by omega),Ak];obtain⟨⟨l1,m1⟩,e1,h1,D⟩:=MI (root:=(a:Int)) T.nodes hl hs M (.inl rfl) (show i<=s.length by omega) (told:=[]) (λa t i l h=>by cases h);simp only at h1 D;subst h1;simp only[];rw[e1,za];simp only[];rw[G4 (show j<s.length+1 by omega),za,zK hm,zI,Ak,hG,za,F3 (by omega),show Xf 24 ((G+1:Nat):Int)=true from zK ⟨by omega,by omega,by omega⟩,Ha,zA];rw[show Fy (List.replicate (G+1) (⟨0,0,false⟩:Ad)) 0=some ⟨0,0,false⟩ from Dh (i:=0) (by simp),za];unfold EH;obtain⟨m2,e2,_⟩:=WO (root:=(a:Int)) T.nodes hl hs m1 h m1 [] ((List.replicate (G+1) ⟨0,0,false⟩).set 0 ⟨(i:Int),(j:Int),true⟩) D M (.inl rfl) I E (by simp;omega) (λg U=>by have:=hg g U;simp;omega);simp only[];have e3:Av.loop (BQ ⟨⟨ns,(a:Int)⟩,s,m1⟩) (m1,[⟨(a:Int),0,(i:Int),(j:Int)⟩],(List.replicate (G+1) ⟨0,0,false⟩).set (0:Int).toNat ⟨(i:Int),(j:Int),true⟩)=some (m2,[],LU ((List.replicate (G+1) ⟨0,0,false⟩).set 0 ⟨(i:Int),(j:Int),true⟩) l):=e2.trans (Up (by unfold NG BQ;rfl));rw[e3];rfl
end
end Go.Av.L
end
