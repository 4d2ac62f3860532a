/-
 A part.
-/
import Derived.Test.YtgkbpgefomapgaaGreatDoorDfaA
namespace Go.Av.L
open Go.Av Go.Lib
set_option linter.unusedVariables false
set_option linter.unusedSimpArgs false
set_option maxRecDepth 10000
abbrev Tk:=AO
abbrev VG:=AM
abbrev bG:=AZ
abbrev Su:=List (bG×List Bool)
section
variable {K V:Type} [DecidableEq K]
theorem T7(m:List (K×V))(k:K)(v:V)(n:K):Cy (CZ m k v) n=if n=k then some v else Cy m n:=by
 induction m with
 |nil=>simp only[CZ,Cy]
 | cons p m ih=>
  obtain⟨k',v'⟩:=p;unfold CZ;by_cases h:k=k'
  ·subst h;rw[zk rfl];simp only[Cy];split<;>rfl
  ·rw[zm h];simp only[Cy,ih];by_cases h1:n=k'
   ·subst h1;simp[Ne.symm h]
   ·simp[h1]
end
def P4(n:VG)(q:Int):Int:=if n.Max<0 then(if q+1<=n.Min then q+1 else n.Min)else q+1
def Lf(n:VG)(s:List UInt8)(a j:Nat):Prop:=
 n.Kind=0/\j=a\/n.Kind=1/\(∃h:a<s.length,PN n.Set (s[a].toNat:Int)=true)/\j=a+1\/n.Kind=6/\j=a/\a=0\/n.Kind=7/\j=a/\a=s.length
inductive En(t:Tk)(s:List UInt8):Nat->Int->Nat->Nat->Prop
 |leaf {i:Nat} {n:VG} {q:Int} {a j:Nat}:t.AN[i]?=some n->Lf n s a j->En t s i q a j
 |Zy {i:Nat} {n:VG} {q:Int} {a j:Nat}:t.AN[i]?=some n->n.Kind=3->En t s n.A.toNat 0 a j->En t s i q a j
 |ZZ {i:Nat} {n:VG} {q:Int} {a j:Nat}:t.AN[i]?=some n->n.Kind=3->En t s n.B.toNat 0 a j->En t s i q a j
 |bp {i:Nat} {n:VG} {q:Int} {a j:Nat}:t.AN[i]?=some n->n.Kind=5->En t s n.A.toNat 0 a j->En t s i q a j
 |cat {i:Nat} {n:VG} {q:Int} {a k j:Nat}:t.AN[i]?=some n->n.Kind=2->En t s n.A.toNat 0 a k->En t s n.B.toNat 0 k j->En t s i q a j
 |stop {i:Nat} {n:VG} {q:Int} {a:Nat}:t.AN[i]?=some n->n.Kind=4->q>=n.Min->En t s i q a a
 |U5 {i:Nat} {n:VG} {q:Int} {a k j:Nat}:t.AN[i]?=some n->n.Kind=4->q≠n.Max->En t s n.A.toNat 0 a k->(a<k\/q<n.Min)->En t s i (P4 n q) k j->En t s i q a j
theorem En.le{t:Tk}{s:List UInt8}{i:Nat}{q:Int}{a j:Nat}(h:En t s i q a j):a<=j/\(a<=s.length->j<=s.length):=by
 induction h with
 |leaf _ h=>
  rcases h with⟨_,h⟩|⟨_,⟨h1,_⟩,h⟩|⟨_,h,_⟩|⟨_,h,_⟩<;>omega
 |Zy _ _ _ ih=>exact ih
 |ZZ _ _ _ ih=>exact ih
 |bp _ _ _ ih=>exact ih
 |cat _ _ _ _ h1 C=>omega
 |stop _ _ _=>omega
 |U5 _ _ _ _ _ _ h1 C=>omega
def Tb(t:Tk)(s:List UInt8)(l:List Bool)(i:Nat)(q:Int)(a:Nat):Prop:=l.length=s.length+1/\∀j,l[j]?=some true↔En t s i q a j
def Vd(t:Tk)(s:List UInt8)(m:Su):Prop:=∀(i:Nat) (q:Int) (a:Nat) v,Cy m (⟨(i:Int),q,(a:Int)⟩:bG)=some v->Tb t s v i q a
theorem Vd.put{t:Tk}{s:List UInt8}{m:Su}(h:Vd t s m){i:Nat}{q:Int}{a:Nat}{l:List Bool}(hl:Tb t s l i q a):Vd t s (CZ m (⟨(i:Int),q,(a:Int)⟩:bG) l):=by
 intro i' q' a' v H;rw[T7]at H;split at H
 ·rename_i e;injection e with e1 e2 e3;obtain rfl:=zw H;rw[Int.ofNat_inj.1 e1,e2,Int.ofNat_inj.1 e3];exact hl
 ·exact h _ _ _ _ H
theorem LG(a b:List Bool)(h:b.length=a.length)(hl:a.length<=1000000):W (DQ a b) λc:List Bool=>c.length=a.length/\∀j:Nat,c[j]?=some true↔a[j]?=some true\/b[j]?=some true:=by
 unfold DQ;refine AJ (W.mono (W.list (l:=b) (λ(c:List Bool) (i:Nat)=>(c,(i:Int))) (λc i=>c.length=a.length/\∀j,c[j]?=some true↔a[j]?=some true\/(j<i/\b[j]?=some true)) ?_ ?_ a ⟨rfl,λj=>by simp⟩) λr I=>AB I)
 ·rintro c ⟨h1,C⟩;unfold GK;dsimp only;rw[zh (by omega),Az];refine AB ⟨h1,λj=>?_⟩;rw[C];constructor
  ·rintro(h|⟨_,h⟩)
   ·exact .inl h
   ·exact .inr h
  ·rintro(h|G)
   ·exact .inl h
   ·exact .inr ⟨(List.getElem?_eq_some_iff.1 G).1,G⟩
 ·rintro c i hi ⟨h1,C⟩;unfold GK;dsimp only;have hc:i<c.length:=by omega
  rw[zi (by omega),Bd,CR hi,za,CR hc,za,za,Ee (by omega),zl];refine AB ⟨_,rfl,by rw[zr];exact h1,λj=>?_⟩;rw[List.getElem?_set];by_cases e:i=j
  ·subst e;rw[zk rfl,zk hc];have G:=C i;rw[List.getElem?_eq_getElem hc]at G;have hbi:b[i]?=some b[i]:=List.getElem?_eq_getElem hi;constructor
   ·intro h;have h:=zw h;rw[zW]at h;rcases h with h|h
    ·rcases G.1 (by rw[h])with h|⟨h,_⟩
     ·exact .inl h
     ·omega
    ·exact .inr ⟨by omega,by rw[hbi,h]⟩
   ·rintro(h|⟨_,h⟩)
    ·have:=G.2 (.inl h);rw[zw this];rfl
    ·rw[hbi]at h;rw[zw h,Bool.or_true]
  ·rw[zm e,C];constructor
   ·rintro(h|⟨h,h'⟩)
    ·exact .inl h
    ·exact .inr ⟨by omega,h'⟩
   ·rintro(h|⟨h,h'⟩)
    ·exact .inl h
    ·exact .inr ⟨by omega,h'⟩
theorem Ii{n:Nat}(j:Nat):¬(List.replicate n false)[j]?=some true:=by
 intro h;obtain⟨h1,C⟩:=List.getElem?_eq_some_iff.1 h;rw[qP]at C;cases C
theorem P2{n a:Nat}(h:a<n)(j:Nat):((List.replicate n false).set a true)[j]?=some true↔j=a:=by
 rw[List.getElem?_set];by_cases e:a=j
 ·subst e;rw[zk rfl,zk (by simpa using h)];simp
 ·rw[zm e];constructor
  ·intro h;exact absurd h (Ii j)
  ·intro h;exact absurd h.symm e
theorem VY{n a:Nat}(h:a<n)(b:Bool)(j:Nat):((List.replicate n false).set a b)[j]?=some true↔j=a/\b=true:=by
 cases b with
 |true=>rw[P2 h];simp
 | false=>
  rw[List.getElem?_set];by_cases e:a=j
  ·subst e;rw[zk rfl,zk (by simpa using h)];simp
  ·rw[zm e];constructor
   ·intro h;exact absurd h (Ii j)
   ·rintro⟨_,h⟩;cases h
def Kk(s:List UInt8):Nat:=2*(255+s.length)+6
def Mn(t:Tk)(i:Nat):Nat:=match t.AN[i]? with
 |some n=>if n.Kind=4 then n.Min.toNat else 0
 |none=>0
def Ms(t:Tk)(s:List UInt8)(i:Nat)(q:Int)(a:Nat):Nat:=i*Kk s+2*((Mn t i - q.toNat)+(s.length - a))+2
def Qk(t:Tk)(i:Nat)(q:Int):Prop:=0<=q/\∀n,t.AN[i]?=some n->n.Kind=4->(n.Max<0->q<=n.Min)/\(0<=n.Max->q<=n.Max)
section
variable {t:Tk} {s:List UInt8}
theorem Mn.le(T:Iu t)(i:Nat):Mn t i<=255:=by
 unfold Mn;split
 ·rename_i n D;split
  ·rename_i F;have:=(T.nodes i n D).2.1 F;omega
  ·omega
 ·omega
theorem Ms.part(T:Iu t){i p:Nat}(hp:p<i)(q:Int)(a k:Nat):Ms t s p 0 k+2<=Ms t s i q a:=by
 unfold Ms;have hm:=Mn.le T p;have:(p+1)*Kk s<=i*Kk s:=yi _ hp;rw[Nat.succ_mul]at this;unfold Kk at *;omega
theorem Qk.zero(T:Iu t)(i:Nat):Qk t i 0:=⟨by omega,λn D F=>by
 have:=(T.nodes i n D).2.1 F
 omega⟩
theorem X3(T:Iu t){i:Nat}{n:VG}(D:t.AN[i]?=some n)(F:n.Kind=4){q:Int}(P:Qk t i q)(Z:q≠n.Max):Qk t i (P4 n q)/\Gn n q=some (P4 n q):=by
 have h1:=(T.nodes i n D).2.1 F;have C:=P.2 n D F;have h0:=P.1;refine⟨⟨?_,λn' hn' hk'=>?_⟩,?_⟩
 ·unfold P4;split<;>(try split)<;>omega
 ·obtain rfl:n=n':=zw (D.symm.trans hn');unfold P4;split<;>(try split)<;>omega
 ·unfold Gn P4 mn;rw[Ht (by omega) (by omega),Cw];split
  ·congr 1;split<;>split<;>omega
  ·rfl
theorem Wn(T:Iu t){i:Nat}{n:VG}(D:t.AN[i]?=some n)(F:n.Kind=4){q:Int}(P:Qk t i q)(Z:q≠n.Max){a k:Nat}(hk2:a<=k)(hk3:k<=s.length)(hg:a<k\/q<n.Min):Ms t s i (P4 n q) k+2<=Ms t s i q a:=by
 have h1:=(T.nodes i n D).2.1 F;have C:=P.2 n D F;have h0:=P.1;have hm:Mn t i=n.Min.toNat:=by unfold Mn;rw[D];dsimp only;rw[zk F]
 have J:q<=P4 n q/\(q<n.Min->P4 n q=q+1):=by
  unfold P4;split
  ·split<;>omega
  ·omega
 unfold Ms;rw[hm];omega
theorem En.inv{i:Nat}{n:VG}{q:Int}{a j:Nat}(h:En t s i q a j)(D:t.AN[i]?=some n):
  Lf n s a j\/n.Kind=3/\(En t s n.A.toNat 0 a j\/En t s n.B.toNat 0 a j)\/n.Kind=5/\En t s n.A.toNat 0 a j\/n.Kind=2/\(∃k,En t s n.A.toNat 0 a k/\En t s n.B.toNat 0 k j)\/
   n.Kind=4/\(q>=n.Min/\j=a\/q≠n.Max/\∃k,En t s n.A.toNat 0 a k/\(a<k\/q<n.Min)/\En t s i (P4 n q) k j):=by
 cases h with
 |leaf h1 C=>obtain rfl:=zw (D.symm.trans h1);exact .inl C
 |Zy h1 C G=>obtain rfl:=zw (D.symm.trans h1);exact .inr (.inl ⟨C,.inl G⟩)
 |ZZ h1 C G=>obtain rfl:=zw (D.symm.trans h1);exact .inr (.inl ⟨C,.inr G⟩)
 |bp h1 C G=>obtain rfl:=zw (D.symm.trans h1);exact .inr (.inr (.inl ⟨C,G⟩))
 |cat h1 C G O=>obtain rfl:=zw (D.symm.trans h1);exact .inr (.inr (.inr (.inl ⟨C,_,G,O⟩)))
 |stop h1 C G=>obtain rfl:=zw (D.symm.trans h1);exact .inr (.inr (.inr (.inr ⟨C,.inl ⟨G,rfl⟩⟩)))
 |U5 h1 C G O h5 h6=>obtain rfl:=zw (D.symm.trans h1);exact .inr (.inr (.inr (.inr ⟨C,.inr ⟨G,_,O,h5,h6⟩⟩)))
theorem Lf.kind{n:VG}{a j:Nat}(h:Lf n s a j):n.Kind=0\/n.Kind=1\/n.Kind=6\/n.Kind=7:=by
 rcases h with⟨h,_⟩|⟨h,_⟩|⟨h,_⟩|⟨h,_⟩<;>simp[h]
def U1(t:Tk)(s:List UInt8)(S:Bh)(f:Nat):Prop:=∀(i:Nat) (q:Int) (a:Nat) (m:Su),i<t.AN.length->Qk t i q->a<=s.length->Ms t s i q a<=f->Vd t s m->
 W (S.Bn ⟨t,s,m⟩ (i:Int) q (a:Int)) λr=>Tb t s r.1 i q a/\Vd t s r.2
def XZ(t:Tk)(s:List UInt8)(S:Bh)(f:Nat):Prop:=∀(i:Nat) (n:VG) (q:Int) (a:Nat) (m:Su) (o:List Bool),t.AN[i]?=some n->n.Kind=4->Qk t i q->a<=s.length->Ms t s i q a<=f+1->Vd t s m->o=List.replicate (s.length+1) false->
 W (S.C6 ⟨t,s,m⟩ o (i:Int) q (a:Int)) λr=>Tb t s r.2 i q a/\Vd t s r.1
theorem Wm(T:Iu t)(hs:s.length<=100000){S:Bh}{f:Nat}(E:U1 t s S f)(i:Nat)(n:VG)(q:Int)(a:Nat)(m:Su)(o:List Bool)(D:t.AN[i]?=some n)(F:n.Kind=4)(P:Qk t i q)(J:a<=s.length)(hM:Ms t s i q a<=f+2)(H:Vd t s m)(ho:o=List.replicate (s.length+1) false):
  W (Da S ⟨t,s,m⟩ o (i:Int) q (a:Int)) λr=>Tb t s r.2 i q a/\Vd t s r.1:=by
 have hi:i<t.AN.length:=(List.getElem?_eq_some_iff.1 D).1;have hR:=(T.nodes i n D).2.1 F;unfold Da;dsimp only;rw[G4 D,za];refine AJ (W.mono (Q:=λb=>b.length=s.length+1/\∀j,b[j]?=some true↔(q>=n.Min/\j=a)) ?_ λb hb=>?_)
 ·subst ho;refine Be (λh=>?_) λh=>AB ⟨by simp,λj=>?_⟩
  ·rw[CR (by simp;omega),za,zl];refine AB ⟨by simp,λj=>?_⟩;rw[P2 (by omega)];simp[h]
  ·constructor
   ·intro h1;exact absurd h1 (Ii j)
   ·intro h1;exact absurd h1.1 h
 obtain⟨b1,b2⟩:=hb;rw[CO];split
 ·rename_i Z;refine AB ⟨⟨b1,λj=>?_⟩,H⟩;rw[b2];constructor
  ·rintro⟨h1,rfl⟩;exact .stop D F h1
  ·intro h;rcases h.inv D with h|h|h|h|⟨_,h|h⟩
   ·have:=h.kind;omega
   ·omega
   ·omega
   ·omega
   ·exact h
   ·exact absurd Z h.1
 ·rename_i Z;obtain⟨hq2,haf⟩:=X3 T D F P Z;have hA:n.A=((n.A.toNat:Nat):Int):=by omega
  have hAi:n.A.toNat<i:=by omega
  rw[hA];have hMA:=Ms.part (s:=s) T hAi q a a;refine AJ ((E n.A.toNat 0 a m (by omega) (Qk.zero T _) J (by omega) H).mono λr I=>?_);obtain⟨l,m1⟩:=r;obtain⟨⟨l1,l2⟩,v1⟩:=I;dsimp only at l1 l2 v1⊢;refine AJ (W.mono (W.list (l:=l) (λ(u:Su×List Bool) (k:Nat)=>(u.1,u.2,(k:Int))) (λu k=>Vd t s u.1/\u.2.length=s.length+1/\∀j,u.2[j]?=some true↔(q>=n.Min/\j=a)\/∃k',k'<k/\En t s n.A.toNat 0 a k'/\(a<k'\/q<n.Min)/\En t s i (P4 n q) k' j) ?_ ?_ (m1,b) ⟨v1,b1,λj=>by rw[b2];simp⟩) λr I=>AB I)
  ·rintro⟨m2,c⟩ ⟨v2,c1,c2⟩;unfold Dw;dsimp only at *;rw[zh (by omega),Az];refine AB ⟨⟨c1,λj=>?_⟩,v2⟩;rw[c2];constructor
   ·rintro(⟨h1,rfl⟩|⟨k,_,h1,C,G⟩)
    ·exact .stop D F h1
    ·exact .U5 D F Z h1 C G
   ·intro h;rcases h.inv D with h|h|h|h|⟨_,h|⟨_,k,h1,C,G⟩⟩
    ·have:=h.kind;omega
    ·omega
    ·omega
    ·omega
    ·exact .inl h
    ·have:=h1.le.2 J;exact .inr ⟨k,by omega,h1,C,G⟩
  ·rintro⟨m2,c⟩ k X ⟨v2,c1,c2⟩;unfold Dw;dsimp only at *;have M:=l2 k;rw[List.getElem?_eq_getElem X]at M;rw[zi (by omega),Bd,CR X,za,show decide ((k:Int)>(a:Int))=decide (a<k) from by rw[decide_eq_decide];omega];have same:¬(l[k]=true/\(a<k\/q<n.Min))->∀j,c[j]?=some true↔(q>=n.Min/\j=a)\/∃k',k'<k+1/\En t s n.A.toNat 0 a k'/\(a<k'\/q<n.Min)/\En t s i (P4 n q) k' j:=by
    intro hno j;rw[c2];constructor
    ·rintro(h|⟨k',h1,C⟩)
     ·exact .inl h
     ·exact .inr ⟨k',by omega,C⟩
    ·rintro(h|⟨k',h1,C,G,O⟩)
     ·exact .inl h
     ·by_cases e:k'=k
      ·subst e;exact absurd ⟨zw (M.2 C),G⟩ hno
      ·exact .inr ⟨k',by omega,C,G,O⟩
   refine AJ (W.mono (Q:=λu:Su×List Bool=>Vd t s u.1/\u.2.length=s.length+1/\∀j,u.2[j]?=some true↔(q>=n.Min/\j=a)\/∃k',k'<k+1/\En t s n.A.toNat 0 a k'/\(a<k'\/q<n.Min)/\En t s i (P4 n q) k' j) ?_ ?_)
   ·refine Am (λh=>?_) λh=>AB ⟨v2,c1,same ?_⟩
    ·rw[zj,zW,zx,zx]at h;have Y:=M.1 (by rw[h.1]);have U:=Y.le;rw[haf,za];have hMk:=Wn (s:=s) T D F P Z U.1 (U.2 J) h.2;refine AJ ((E i (P4 n q) k m2 hi hq2 (U.2 J) (by omega) v2).mono λr I=>?_);obtain⟨l',m3⟩:=r;obtain⟨⟨e1,e2⟩,v3⟩:=I;dsimp only at e1 e2 v3⊢;refine AJ ((LG c l' (by omega) (by omega)).mono λd hd=>AB ⟨v3,(show d.length=s.length+1 by omega),λj=>?_⟩);rw[hd.2,c2,e2];constructor
     ·rintro((h1|⟨k',h1,C⟩)|h1)
      ·exact .inl h1
      ·exact .inr ⟨k',by omega,C⟩
      ·exact .inr ⟨k,by omega,Y,h.2,h1⟩
     ·rintro(h1|⟨k',h1,C,G,O⟩)
      ·exact .inl (.inl h1)
      ·by_cases e:k'=k
       ·subst e;exact .inr O
       ·exact .inl (.inr ⟨k',by omega,C,G,O⟩)
    ·rintro⟨h1,C⟩;rw[h1,qr,zG,zB,zB]at h;omega
   ·rintro⟨m3,d⟩ hd;exact AB ⟨(m3,d),by rw[Ee (by omega)],hd⟩
theorem Wu(T:Iu t)(hs:s.length<=100000){S:Bh}{f:Nat}(E:U1 t s S f)(R:XZ t s S f)(i:Nat)(q:Int)(a:Nat)(m:Su)(hi:i<t.AN.length)(P:Qk t i q)(J:a<=s.length)(hM:Ms t s i q a<=f+1)(H:Vd t s m):
  W (FU S ⟨t,s,m⟩ (i:Int) q (a:Int)) λr=>Tb t s r.1 i q a/\Vd t s r.2:=by
 have D:t.AN[i]?=some t.AN[i]:=List.getElem?_eq_getElem hi;unfold FU;dsimp only;cases hf:Cy m (⟨(i:Int),q,(a:Int)⟩:bG)with
 |some v=>exact AB ⟨H _ _ _ _ hf,H⟩
 | none =>
  show W (Ds _ _) _;have hw:IntKind.i64.wrap ((s.length:Int)+1)=((s.length+1:Nat):Int):=Ee (by omega);rw[hw,zl];refine Ce (by unfold YD;exact zi (by omega)) ?_;refine AJ (W.mono (Q:=λr:List Bool×Su=>Tb t s r.1 i q a/\Vd t s r.2) ?_ λr I=>?_)
  rotate_left
  ·obtain⟨l,m'⟩:=r;obtain⟨h1,C⟩:=I;exact Ce (zi (by rw[h1.1];omega)) (AB ⟨h1,C.put h1⟩)
  have hT:=T.nodes i _ D;rw[G4 D,za];generalize t.AN[i]=n at D hT;have N:∀{k:Nat},k<=s.length->FT (List.replicate (s.length+1) false) (k:Int)=some false:=λ{k} h=>by
   rw[CR (by simp;omega),qP]
  have leafy:∀{l:List Bool},l.length=s.length+1->(∀j,l[j]?=some true↔Lf n s a j)->(n.Kind=0\/n.Kind=1\/n.Kind=6\/n.Kind=7\/(n.Kind≠2/\n.Kind≠3/\n.Kind≠4/\n.Kind≠5))->Tb t s l i q a:=λh1 C G=>⟨h1,λj=>by
   rw[C];constructor
   ·exact λh=>.leaf D h
   ·intro h;rcases h.inv D with h|h|h|h|h
    ·exact h
    all_goals omega⟩
  rw[CO];split
  ·rename_i F;rw[N J,za,zl];refine AB ⟨leafy (by simp) (λj=>?_) (.inl F),H⟩;rw[P2 (by omega)];unfold Lf;simp[F]
  rename_i h0;rw[CO];split
  ·rename_i F;by_cases hlt:a<s.length
   ·rw[zi (by omega),Bd,Kj hlt,za,has_eq _ (Kh _).1 (Kh _).2,za,za];cases hh:PN n.Set (s[a].toNat:Int)with
    |true=>
     rw[Bd,Ee (by omega),N (k:=a+1) (by omega),za,zl];refine AB ⟨leafy (by simp) (λj=>?_) (.inr (.inl F)),H⟩;rw[P2 (by omega)];unfold Lf;simp[F,hlt,hh]
    | false=>
     rw[Az];refine AB ⟨leafy (by simp) (λj=>?_) (.inr (.inl F)),H⟩;constructor
     ·exact λh=>absurd h (Ii j)
     ·unfold Lf;rintro(⟨h,_⟩|⟨_,⟨_,h⟩,_⟩|⟨h,_⟩|⟨h,_⟩)
      ·omega
      ·rw[hh]at h;cases h
      ·omega
      ·omega
   ·rw[zh (by omega),Az,za,Az];refine AB ⟨leafy (by simp) (λj=>?_) (.inr (.inl F)),H⟩;constructor
    ·exact λh=>absurd h (Ii j)
    ·unfold Lf;rintro(⟨h,_⟩|⟨_,⟨h,_⟩,_⟩|⟨h,_⟩|⟨h,_⟩)<;>omega
  rename_i h1;rw[CO];split
  ·rename_i F;rw[N J,za,zl];refine AB ⟨leafy (by simp) (λj=>?_) (.inr (.inr (.inl F))),H⟩;rw[VY (by omega)];unfold Lf;simp[F]
  rename_i h6;rw[CO];split
  ·rename_i F;rw[N J,za,zl];refine AB ⟨leafy (by simp) (λj=>?_) (.inr (.inr (.inr (.inl F)))),H⟩;rw[VY (by omega)];unfold Lf;simp[F];omega
  rename_i h7;have z1:∀j,(List.replicate (s.length+1) false)[j]?=some true↔False:=λj=>⟨λh=>Ii j h,False.elim⟩;rw[CO];split
  ·rename_i F;have hAB:=hT.1 (.inr F);have hA:n.A=((n.A.toNat:Nat):Int):=by omega
   have hB:n.B=((n.B.toNat:Nat):Int):=by omega
   have mA:=Ms.part (s:=s) T (show n.A.toNat<i by omega) q a a;have mB:=Ms.part (s:=s) T (show n.B.toNat<i by omega) q a a;rw[hA,hB];refine AJ ((E n.A.toNat 0 a m (by omega) (Qk.zero T _) J (by omega) H).mono λr I=>?_);obtain⟨l,m1⟩:=r;obtain⟨⟨l1,l2⟩,v1⟩:=I;dsimp only at l1 l2 v1⊢;refine AJ ((LG _ l (by simp;omega) (by simp;omega)).mono λc hc=>?_);rw[qj]at hc;refine AJ ((E n.B.toNat 0 a m1 (by omega) (Qk.zero T _) J (by omega) v1).mono λr I=>?_);obtain⟨l',m2⟩:=r;obtain⟨⟨e1,e2⟩,v2⟩:=I;dsimp only at e1 e2 v2⊢;refine AJ ((LG c l' (by omega) (by omega)).mono λd hd=>AB ⟨⟨(show d.length=s.length+1 by omega),λj=>?_⟩,v2⟩);rw[hd.2,hc.2,z1,l2,e2,false_or];constructor
   ·rintro(h|h)
    ·exact .Zy D F h
    ·exact .ZZ D F h
   ·intro h;rcases h.inv D with h|h|h|h|h
    ·have:=h.kind;omega
    ·exact h.2
    all_goals omega
  rename_i G;rw[CO];split
  ·rename_i F;have hAB:=hT.2.2 F;have hA:n.A=((n.A.toNat:Nat):Int):=by omega
   have mA:=Ms.part (s:=s) T (show n.A.toNat<i by omega) q a a;rw[hA];refine AJ ((E n.A.toNat 0 a m (by omega) (Qk.zero T _) J (by omega) H).mono λr I=>?_);obtain⟨l,m1⟩:=r;obtain⟨⟨l1,l2⟩,v1⟩:=I;dsimp only at l1 l2 v1⊢;refine AJ ((LG _ l (by simp;omega) (by simp;omega)).mono λc hc=>AB ⟨⟨by rw[hc.1];simp,λj=>?_⟩,v1⟩);rw[hc.2,z1,l2,false_or];constructor
   ·exact λh=>.bp D F h
   ·intro h;rcases h.inv D with h|h|h|h|h
    ·have:=h.kind;omega
    ·omega
    ·exact h.2
    all_goals omega
  rename_i h5;rw[CO];split
  ·rename_i F;have hAB:=hT.1 (.inl F);have hA:n.A=((n.A.toNat:Nat):Int):=by omega
   have hB:n.B=((n.B.toNat:Nat):Int):=by omega
   have mA:=Ms.part (s:=s) T (show n.A.toNat<i by omega) q a a;rw[hA];refine AJ ((E n.A.toNat 0 a m (by omega) (Qk.zero T _) J (by omega) H).mono λr I=>?_);obtain⟨l,m1⟩:=r;obtain⟨⟨l1,l2⟩,v1⟩:=I;dsimp only at l1 l2 v1⊢;refine AJ (W.mono (W.list (l:=l) (λ(u:Su×List Bool) (k:Nat)=>(u.1,u.2,(k:Int))) (λu k=>Vd t s u.1/\u.2.length=s.length+1/\∀j,u.2[j]?=some true↔∃k',k'<k/\En t s n.A.toNat 0 a k'/\En t s n.B.toNat 0 k' j) ?_ ?_ (m1,List.replicate (s.length+1) false) ⟨v1,by simp,λj=>by rw[z1];simp⟩) λr I=>AB I)
   ·rintro⟨m2,c⟩ ⟨v2,c1,c2⟩;unfold Fk;dsimp only at *;rw[zh (by omega),Az];refine AB ⟨⟨c1,λj=>?_⟩,v2⟩;rw[c2];constructor
    ·rintro⟨k,_,h1,C⟩;exact .cat D F h1 C
    ·intro h;rcases h.inv D with h|h|h|⟨_,k,h1,C⟩|h
     ·have:=h.kind;omega
     ·omega
     ·omega
     ·have:=h1.le.2 J;exact⟨k,by omega,h1,C⟩
     ·omega
   ·rintro⟨m2,c⟩ k X ⟨v2,c1,c2⟩;unfold Fk;dsimp only at *;have M:=l2 k;rw[List.getElem?_eq_getElem X]at M;rw[zi (by omega),Bd,CR X,za];refine AJ (W.mono (Q:=λu:Su×List Bool=>Vd t s u.1/\u.2.length=s.length+1/\∀j,u.2[j]?=some true↔∃k',k'<k+1/\En t s n.A.toNat 0 a k'/\En t s n.B.toNat 0 k' j) ?_ ?_)
    ·refine Am (λh=>?_) λh=>AB ⟨v2,c1,λj=>?_⟩
     ·have Y:=M.1 (by rw[h]);have U:=Y.le;have mB:=Ms.part (s:=s) T (show n.B.toNat<i by omega) q a k;rw[hB];refine AJ ((E n.B.toNat 0 k m2 (by omega) (Qk.zero T _) (U.2 J) (by omega) v2).mono λr I=>?_);obtain⟨l',m3⟩:=r;obtain⟨⟨e1,e2⟩,v3⟩:=I;dsimp only at e1 e2 v3⊢;refine AJ ((LG c l' (by omega) (by omega)).mono λd hd=>AB ⟨v3,(show d.length=s.length+1 by omega),λj=>?_⟩);rw[hd.2,c2,e2];constructor
      ·rintro(⟨k',h1,C⟩|h1)
       ·exact⟨k',by omega,C⟩
       ·exact⟨k,by omega,Y,h1⟩
      ·rintro⟨k',h1,C,G⟩;by_cases e:k'=k
       ·subst e;exact .inr G
       ·exact .inl ⟨k',by omega,C,G⟩
     ·rw[c2];constructor
      ·rintro⟨k',h1,C⟩;exact⟨k',by omega,C⟩
      ·rintro⟨k',h1,C,G⟩;by_cases e:k'=k
       ·subst e;have:=zw (M.2 C);rw[h]at this;cases this
       ·exact⟨k',by omega,C,G⟩
    ·rintro⟨m3,d⟩ hd;exact AB ⟨(m3,d),by rw[Ee (by omega)],hd⟩
  rename_i C;rw[CO];split
  ·rename_i F;refine AJ ((R i n q a m _ D F P J (by omega) H rfl).mono λr I=>?_);obtain⟨m1,l⟩:=r;exact AB I
  ·rename_i O;refine AB ⟨leafy (by simp) (λj=>?_) (.inr (.inr (.inr (.inr ⟨C,G,O,h5⟩)))),H⟩;constructor
   ·exact λh=>absurd h (Ii j)
   ·intro h;have:=h.kind;omega
theorem Rm(T:Iu t)(hs:s.length<=100000):∀f:Nat,U1 t s (CY f) f/\XZ t s (CY f) f
 |0=>⟨λi q a m _ _ _ h=>by unfold Ms at h;omega,λi n q a m o _ _ _ _ h=>by unfold Ms at h;omega⟩
 |f+1=>by
  obtain⟨E,R⟩:=Rm T hs f;exact⟨λi q a m h1 C G O h5=>Wu T hs E R i q a m h1 C G O h5,λi n q a m o h1 C G O h5 h6 h7=>Wm T hs E i n q a m o h1 C G O h5 h6 h7⟩
theorem M0(T:Iu t)(hs:s.length<=100000)(i:Nat)(q:Int)(a:Nat)(m:Su)(hi:i<t.AN.length)(P:Qk t i q)(J:a<=s.length)(H:Vd t s m):
  W (Bn ⟨t,s,m⟩ (i:Int) q (a:Int)) λr=>Tb t s r.1 i q a/\Vd t s r.2:=by
 refine(Rm T hs KK).1 i q a m hi P J ?_ H;have hl:=T.len;have hm:=Mn.le T i;have:i*Kk s<=1024*Kk s:=yi _ (by omega);rw[S7];unfold Ms Kk at *;omega
end
end Go.Av.L
