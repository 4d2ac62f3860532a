/-
  Several texts in one.
-/
import Derived.Test.YtgkbpgefomapgaaGreatDoorScN
import Derived.Test.YtgkbpgefomapgaaGreatDoorScL
import Derived.Lib.LaidTab
/-
 A part.
-/
section
namespace Go.Av.L
open Go.Av Go.Lib
set_option linter.unusedVariables false
set_option linter.unusedSimpArgs false
set_option maxRecDepth 100000 in
theorem Qi:CN=some true:=by kernel_rfl
theorem aw{Q:Bool->Prop}(h:Q true):W ((CN).bind λx=>some x) Q:=AJ (VM Qi (AB h))
structure Tx(s:List UInt8)(e:A9)(r:Int):Prop where
 p:∃a,Eg s=some (e,a,r)
 d:∃y a,Df s=some (y,a,r)
 n:W (Ex e 4096) λr=>(r.1=none/\r.2.2≠0)\/∃R,r=(some R,0,0)/\Nn e R
theorem tx(s:List UInt8)(F:s.length<=60):∃e r,Tx s e r:=by
 obtain⟨e,a,r,h1,E,h3⟩:=both (s:=s) (by omega);exact⟨e,r,⟨a,h1⟩,⟨_,a,E⟩,YZ e (by omega)⟩
def Rl(s:List UInt8)(R:Ax):Prop:=∃e,Tx s e 0/\Ex e 4096=some (some R,0,0)/\Nn e R
def Nr(s:List UInt8):Prop:=∃e r,Tx s e r/\(r=0->∃p q,Ex e 4096=some (none,p,q)/\q≠0)
theorem Tx.fn{s:List UInt8}{e e':A9}{r r':Int}(h:Tx s e r)(h':Tx s e' r'):e=e'/\r=r':=by
 obtain⟨a,h⟩:=h.p;obtain⟨b,h'⟩:=h'.p;rw[h]at h';cases h';exact⟨rfl,rfl⟩
theorem Rl.no{s:List UInt8}{R:Ax}(h:Rl s R)(h':Nr s):False:=by
 obtain⟨e,t,h,_⟩:=h;obtain⟨e',r',t',h'⟩:=h';obtain⟨rfl,rfl⟩:=t.fn t';obtain⟨p,q,h',_⟩:=h' rfl;rw[h]at h';cases h'
noncomputable def UG(R:Ax)(w:List UInt8):Option (List UInt8):=
 if R.x_.Names=true then(match DD R w with|some w'=>if w'.length<=4096 then some w' else none|none=>none)else some w
noncomputable def PA(rs:List Ax)(w:List UInt8):Option (List UInt8):=rs.foldl (λo R=>o.bind (UG R)) (some w)
theorem Rf(rs:List Ax)(R:Ax)(w:List UInt8):PA (rs++[R]) w=(PA rs w).bind (UG R):=by
 unfold PA;rw[List.foldl_append];rfl
theorem Yk(rs:List Ax):rs.foldl (λo R=>o.bind (UG R)) none=none:=by
 induction rs with
 |nil=>rfl
 |cons R r ih=>exact ih
theorem V9{rs:List Ax}{w:List UInt8}(k:Nat)(h:PA (rs.take k) w=none):PA rs w=none:=by
 have:rs=rs.take k++rs.drop k:=(zC k rs).symm;rw[this];unfold PA at h⊢;rw[List.foldl_append,h];exact Yk _
theorem UK{rs:List Ax}(Z:rs.length<=10)(V:∀R∈rs,∃x,Nn x R)(w:List UInt8)(hw:w.length<=60):DR ⟨rs,4096⟩ w=some (match PA rs w with|some v=>(v,0)|none=>([],7)):=by
 refine W.eq ?_;unfold DR Ei;dsimp only;rw[zh (show ¬(w.length:Int)>4096 by omega),Az];refine AJ (AJ (W.mono (W.loop (λu=>∃i:Nat,u.2=(i:Int)/\i<=rs.length/\u.1.length<=4096/\PA (rs.take i) w=some u.1) (λu=>(rs.length - u.2).toNat) ⟨0,rfl,by omega,by dsimp only;omega,rfl⟩ ?_ (Q:=λo=>match o with| .inl v=>PA rs w=some v| .inr v=>v=([],7)/\PA rs w=none)) λo H=>?_))
 ·rintro⟨v,_⟩ ⟨i,rfl,hi,X,O⟩;dsimp only at X O;unfold FQ;dsimp only;refine Be (λD=>?_) λhge=>?_
  ·have hi2:i<rs.length:=by omega
   obtain⟨R,hRi⟩:∃R,rs[i]?=some R:=⟨_,List.getElem?_eq_getElem hi2⟩;obtain⟨x,I⟩:=V R (zI hRi);have B:=Rf (rs.take i) R w;rw[<-HG hRi,O,za]at B;unfold UG at B;unfold FZ JI;rw[G4 hRi,za,za,za,Ee (by omega)];cases Y:R.x_.Names with
   |false=>
    rw[Y,zm (by decide)]at B;exact AB ⟨⟨i+1,rfl,by omega,X,B⟩,by dsimp only;omega⟩
   | true=>
    rw[Y,zk rfl]at B;obtain⟨z,hz,_⟩:=Ov I v X;rw[hz]at B⊢;dsimp only at B;rw[z6,Az,za];by_cases K:z.length<=4096
    ·rw[zk K]at B;rw[zh (by omega),Az];exact AB ⟨⟨i+1,rfl,by omega,K,B⟩,by dsimp only;omega⟩
    ·rw[zm K]at B;rw[zi (by omega),Bd];exact AB ⟨rfl,V9 (i+1) B⟩
  ·have:i=rs.length:=by omega
   subst this;rw[qe]at O;exact AB O
 ·rcases o with v|⟨v1,v2⟩
  ·have H:PA rs w=some v:=H;rw[H];exact AB (AB rfl)
  ·obtain⟨h1,E⟩:=H;cases h1;rw[E];exact AB (AB rfl)
theorem WZ(l:List (List UInt8))(K:l.length<=10)(N:∀x∈l,x.length<=60):W (Cx l) λv=>(v= -1/\∀(j:Nat) s,l[j]?=some s->∃e,Tx s e 0)\/∃k:Nat,v=(k:Int)/\(∃s e r,l[k]?=some s/\Tx s e r/\r≠0)/\∀(j:Nat) s,j<k->l[j]?=some s->∃e,Tx s e 0:=by
 unfold Cx
 refine AJ (W.mono (W.loop (λu=>∃i:Nat,u=(i:Int)/\i<=l.length/\∀(j:Nat) s,j<i->l[j]?=some s->∃e,Tx s e 0) (λu=>(l.length - u).toNat) ⟨0,rfl,by omega,λj s h=>by omega⟩ ?_ (Q:=λo=>match o with
  | .inl _=>∀(j:Nat) s,l[j]?=some s->∃e,Tx s e 0
  | .inr v=>∃k:Nat,v=(k:Int)/\(∃s e r,l[k]?=some s/\Tx s e r/\r≠0)/\∀(j:Nat) s,j<k->l[j]?=some s->∃e,Tx s e 0)) λo H=>?_)
 ·rintro _ ⟨i,rfl,hi,M⟩;unfold GV;refine Be (λD=>?_) λhge=>AB λj s G=>M j s (by have:=(List.getElem?_eq_some_iff.1 G).1;omega) G;obtain⟨s,F⟩:∃s,l[i]?=some s:=⟨_,List.getElem?_eq_getElem (show i<l.length by omega)⟩;obtain⟨e,r,T⟩:=tx s (N s (zI F));obtain⟨y,a,hd⟩:=T.d;rw[G4 F,za,hd,za];dsimp only;rw[Gi];by_cases h0:r=0
  ·subst h0;rw[zk rfl,Ee (by omega)];refine AB ⟨⟨i+1,rfl,by omega,λj s' G C=>?_⟩,by omega⟩;by_cases S:j=i
   ·subst S;rw[F]at C;cases C;exact⟨e,T⟩
   ·exact M j s' (by omega) C
  ·rw[zm h0];exact AB ⟨i,rfl,⟨s,e,r,F,T,h0⟩,M⟩
 ·rcases o with _|v
  ·exact AB (.inl ⟨rfl,H⟩)
  ·exact AB (.inr H)
theorem Tc(l:List (List UInt8))(K:l.length<=10)(N:∀x∈l,x.length<=60):W (loop (Hp l) (([]:List A9),(0:Int))) λo=>match o with
  | .inl es=>es.length=l.length/\∀(j:Nat) s,l[j]?=some s->∃e,es[j]?=some e/\Tx s e 0
  | .inr (v,q)=>q≠0/\∃k:Nat,v=(k:Int)/\(∃s e r,l[k]?=some s/\Tx s e r/\r≠0)/\∀(j:Nat) s,j<k->l[j]?=some s->∃e,Tx s e 0:=by
 refine W.loop (λu=>∃i:Nat,u.2=(i:Int)/\i<=l.length/\u.1.length=i/\∀(j:Nat) s,j<i->l[j]?=some s->∃e,u.1[j]?=some e/\Tx s e 0) (λu=>(l.length - u.2).toNat) ⟨0,rfl,by omega,rfl,λj s h=>by omega⟩ ?_;rintro⟨es,_⟩ ⟨i,rfl,hi,he,M⟩;dsimp only at he M;unfold Hp;dsimp only;refine Be (λD=>?_) λhge=>AB ⟨by omega,λj s G=>M j s (by have:=(List.getElem?_eq_some_iff.1 G).1;omega) G⟩;obtain⟨s,F⟩:∃s,l[i]?=some s:=⟨_,List.getElem?_eq_getElem (show i<l.length by omega)⟩;obtain⟨e,r,T⟩:=tx s (N s (zI F));obtain⟨a,hd⟩:=T.p;rw[G4 F,za,hd,za];dsimp only;rw[Gi];by_cases h0:r=0
 ·subst h0;rw[zk rfl,Ee (by omega)];refine Ce (DL (by simp;omega) (by simp;omega)) (AB ⟨⟨i+1,rfl,by omega,by simp[he],λj s' G C=>?_⟩,by dsimp only;omega⟩);by_cases S:j=i
  ·subst S;rw[F]at C;cases C;exact⟨e,by dsimp only;rw[List.getElem?_append_right (by omega),he,yy];rfl,T⟩
  ·obtain⟨e',h1,E⟩:=M j s' (by omega) C;exact⟨e',by dsimp only;rw[List.getElem?_append_left (by omega)];exact h1,E⟩
 ·rw[zm h0];exact AB ⟨h0,i,rfl,⟨s,e,r,F,T,h0⟩,λj s' G C=>by obtain⟨e',_,h⟩:=M j s' G C;exact⟨e',h⟩⟩
theorem Wt(l:List (List UInt8))(es:List A9)(K:l.length<=10)(hes:es.length=l.length)(M:∀(j:Nat) s,l[j]?=some s->∃e,es[j]?=some e/\Tx s e 0):W (Gv es 4096 4096) λr=>
  (∃rs:List Ax,r=(some ⟨rs,4096⟩,0,0)/\rs.length=l.length/\∀(j:Nat) s,l[j]?=some s->∃R,rs[j]?=some R/\Rl s R)\/
  (r.1=none/\r.2.2≠0/\∃k:Nat,r.2.1=(k:Int)/\(∃s,l[k]?=some s/\Nr s)/\∀(j:Nat) s,j<k->l[j]?=some s->∃R,Rl s R):=by
 unfold Gv;rw[show(decide ((4096:Int)<1)||decide ((4096:Int)>4096))=false from by decide,Az,zh (by omega),Az]
 refine AJ (W.mono (W.loop (λu=>∃i:Nat,u.2=(i:Int)/\i<=l.length/\u.1.length=i/\∀(j:Nat) s,j<i->l[j]?=some s->∃R,u.1[j]?=some R/\Rl s R) (λu=>(l.length - u.2).toNat) ⟨0,rfl,by omega,rfl,λj s h=>by omega⟩ ?_ (Q:=λo=>match o with
  | .inl rs=>rs.length=l.length/\∀(j:Nat) s,l[j]?=some s->∃R,rs[j]?=some R/\Rl s R
  | .inr (_,v,q)=>q≠0/\∃k:Nat,v=(k:Int)/\(∃s,l[k]?=some s/\Nr s)/\∀(j:Nat) s,j<k->l[j]?=some s->∃R,Rl s R)) λo H=>?_)
 ·rintro⟨rs,_⟩ ⟨i,rfl,hi,he,hB⟩;dsimp only at he hB;unfold Hv;dsimp only;refine Be (λD=>?_) λhge=>AB ⟨by omega,λj s G=>hB j s (by have:=(List.getElem?_eq_some_iff.1 G).1;omega) G⟩;obtain⟨s,F⟩:∃s,l[i]?=some s:=⟨_,List.getElem?_eq_getElem (show i<l.length by omega)⟩;obtain⟨e,hes2,T⟩:=M i s F;obtain⟨⟨w,p,q⟩,Y,U⟩:=T.n;rw[G4 hes2,za,Y,za];rcases U with⟨h1,E⟩|⟨R,h,I⟩
  ·dsimp only at h1 E;subst h1;dsimp only;rw[Gi,zm E];exact AB ⟨E,i,rfl,⟨s,F,e,0,T,λ_=>⟨p,q,Y,E⟩⟩,λj s' G C=>by obtain⟨R,_,h⟩:=hB j s' G C;exact⟨R,h⟩⟩
  ·cases h;dsimp only;rw[show((0:Int) !=0)=false from rfl,Az,Ee (by omega)];refine Ce (DL (by simp;omega) (by simp;omega)) (AB ⟨⟨i+1,rfl,by omega,by simp[he],λj s' G C=>?_⟩,by dsimp only;omega⟩);by_cases S:j=i
   ·subst S;rw[F]at C;cases C;exact⟨R,by dsimp only;rw[List.getElem?_append_right (by omega),he,yy];rfl,e,T,Y,I⟩
   ·obtain⟨R',h1,E⟩:=hB j s' (by omega) C;exact⟨R',by dsimp only;rw[List.getElem?_append_left (by omega)];exact h1,E⟩
 ·rcases o with rs|⟨a,v,q⟩
  ·exact AB (.inl ⟨rs,rfl,H.1,H.2⟩)
  ·exact AB (.inr ⟨rfl,H.1,H.2⟩)
theorem Rl.fn{s:List UInt8}{R R':Ax}(h:Rl s R)(h':Rl s R'):R=R':=by
 obtain⟨e,t,h,_⟩:=h;obtain⟨e',t',h',_⟩:=h';obtain⟨rfl,_⟩:=t.fn t';rw[h]at h';cases h';rfl
theorem Rl.tx{s:List UInt8}{R:Ax}(h:Rl s R){e:A9}{r:Int}(t:Tx s e r):r=0:=by
 obtain⟨e',t',_⟩:=h;exact(t.fn t').2
theorem WU(l:List (List UInt8))(h0:l≠[])(K:l.length<=4)(hg:∀x∈l,∃k1 k2,Good x k1 k2):W (Fs (E9 l) 4096 4096) λr=>
    (∃rs:List Ax,r=(some ⟨rs,4096⟩,0,0)/\rs.length=l.length/\∀(j:Nat) s,l[j]?=some s->∃R,rs[j]?=some R/\Rl s R)\/
    (r.1=none/\r.2.2≠0/\∃k:Nat,r.2.1=(k:Int)/\
      (((∃s e r,l[k]?=some s/\Tx s e r/\r≠0)/\∀(j:Nat) s,j<k->l[j]?=some s->∃e,Tx s e 0)\/
       ((∀(j:Nat) s,l[j]?=some s->∃e,Tx s e 0)/\(∃s,l[k]?=some s/\Nr s)/\∀(j:Nat) s,j<k->l[j]?=some s->∃R,Rl s R))):=by
  have N:∀x∈l,x.length<=60:=λx J=>by obtain⟨_,_,g⟩:=hg x J;exact g.len.2
  have G:=Ot l N;have hll:=Rk l [] [] h0 hg (by simp;omega) (by simp;omega);have hll:loop (Dz (E9 l)) ([],(0:Int))=some (l,true):=hll;have hL:EB (E9 l)=some (l,true):=by
    unfold EB;rw[hll];rfl
  unfold Fs;rw[hL,za];dsimp only;rw[z6,Az];refine AJ ((Tc l (by omega) N).mono λo H=>?_);rcases o with es|⟨v,q⟩
  · obtain⟨he,M⟩:=H
    dsimp only;refine AJ ((Wt l es (by omega) he M).mono λr V=>?_);obtain⟨w,p,q⟩:=r;rcases V with⟨rs,h,h1,E⟩|⟨h,U,k,hk,h1,E⟩
    · cases h
      exact AB (.inl ⟨rs,rfl,h1,E⟩)
    · dsimp only at h U hk
      subst h;exact AB (.inr ⟨rfl,U,k,hk,.inr ⟨λj s F=>by obtain⟨e,_,h⟩:=M j s F;exact⟨e,h⟩,h1,E⟩⟩)
  · obtain⟨U,k,hk,h1,E⟩:=H
    exact AB (.inr ⟨rfl,U,k,hk,.inl ⟨h1,E⟩⟩)
structure St(l:List (List UInt8))(p:List UInt8)(i:Nat)(x2:List UInt8)(x3:Int)(x4:List UInt8)(x5:Bool):Prop where
 j:x2=E9 (l.take i)
 g:∀x∈l.take i,∃k1 k2,Good x k1 k2
 c:(x3= -1/\∃rs:List Ax,rs.length=i/\(∀(j:Nat) s,j<i->l[j]?=some s->∃R,rs[j]?=some R/\Rl s R)/\(x5=true/\PA rs p=some x4/\x4.length<=4096\/x5=false/\PA rs p=none))\/
  (∃b:Nat,x3=(b:Int)/\b<i/\(∃s,l[b]?=some s/\Nr s)/\∀(j:Nat) s,j<b->l[j]?=some s->∃R,Rl s R)
theorem St.bad{l:List (List UInt8)}{p:List UInt8}{i:Nat}{x2:List UInt8}{x3:Int}{x4:List UInt8}{x5:Bool}(h:St l p i x2 x3 x4 x5){s:List UInt8}(F:l[i]?=some s)(Z:Nr s)(b2:∀x∈l.take (i+1),∃k1 k2,Good x k1 k2):
  W (Ae (decide (x3<(0:Int))) (some (.inl (E9 (l.take (i+1)),(i:Int),x4,x5))) (some (.inl (E9 (l.take (i+1)),x3,x4,x5))):Option (((List UInt8)×Int×(List UInt8)×Bool)⊕Bool)) λo=>match o with| .inl (y2,y3,y4,y5)=>St l p (i+1) y2 y3 y4 y5| .inr b=>b=true:=by
 rcases h.c with⟨rfl,rs,h1,E,_⟩|⟨b,rfl,h1,E,h3⟩
 ·exact AB ⟨rfl,b2,.inr ⟨i,rfl,by omega,⟨s,F,Z⟩,λj s G F=>by obtain⟨R,_,h⟩:=E j s G F;exact⟨R,h⟩⟩⟩
 ·rw[zh (by omega),Az];exact AB ⟨rfl,b2,.inr ⟨b,rfl,by omega,E,h3⟩⟩
theorem Wq(l:List (List UInt8))(p:List UInt8)(K:l.length<=4)(hp:p.length<=60):W (loop (D1 l) (([]:List UInt8),(-1:Int),p,true,(0:Int))) λo=>match o with| .inl (y2,y3,y4,y5)=>St l p l.length y2 y3 y4 y5| .inr b=>b=true:=by
 refine W.loop (λu=>∃i:Nat,u.2.2.2.2=(i:Int)/\i<=l.length/\St l p i u.1 u.2.1 u.2.2.1 u.2.2.2.1) (λu=>(l.length - u.2.2.2.2).toNat) ⟨0,rfl,by omega,rfl,by simp,.inl ⟨rfl,[],rfl,λj s h=>by omega,.inl ⟨rfl,rfl,by dsimp only;omega⟩⟩⟩ ?_;rintro⟨x2,x3,x4,x5,_⟩ ⟨i,rfl,hi,hS⟩;dsimp only at hS;unfold D1;dsimp only;refine Be (λD=>?_) λhge=>?_
 rotate_left
 ·have:i=l.length:=by omega
  subst this;exact AB hS
 refine AJ (W.mono (Q:=λo=>match o with| .inl (y2,y3,y4,y5)=>St l p (i+1) y2 y3 y4 y5| .inr b=>b=true) ?_ λo H=>?_)
 rotate_left
 ·rcases o with⟨y2,y3,y4,y5⟩|b
  ·dsimp only;rw[Ee (by omega)];exact AB ⟨⟨i+1,rfl,by omega,H⟩,by dsimp only;omega⟩
  ·exact AB H
 obtain⟨s,F⟩:∃s,l[i]?=some s:=⟨_,List.getElem?_eq_getElem (show i<l.length by omega)⟩;rw[G4 F,za];refine AJ (W.mono (Q:=λb:Bool=>b=false->2<=s.length/\s.length<=60) (Am (λ_=>AB λe=>by cases e) λhb=>?_) λb hb=>?_)
 ·simp only[zG,zB]at hb;obtain⟨c,hc⟩:∃c,s[1]?=some c:=⟨_,List.getElem?_eq_getElem (show 1<s.length by omega)⟩;rw[show IA s 1=some (c.toNat:Int) from DZ (i:=1) hc,za];exact AB λ_=>⟨by omega,by omega⟩
 refine Am (λ_=>AJ (VM Qi (AB rfl))) λhb2=>?_;obtain⟨hs2,hs60⟩:=hb hb2;refine AJ ((W9 hs2 hs60).mono λr V=>?_);obtain⟨y,z⟩:=r;dsimp only at V⊢;refine Am (λ_=>AJ (VM Qi (AB rfl))) λhc=>?_;simp only[zG,yg,bne_eq_false_iff_eq]at hc;obtain⟨k1,k2,g⟩:=V hc.1 (by omega);have b2:∀x∈l.take (i+1),∃k1 k2,Good x k1 k2:=λx J=>by
  rw[HG F,zp,zH]at J;rcases J with J|rfl
  ·exact hS.g x J
  ·exact⟨k1,k2,g⟩
 have G:=Ot (l.take i) (λy hy=>by obtain⟨_,_,g⟩:=hS.g y hy;exact g.len.2);have hti:(l.take i).length=i:=by rw[zP];omega
 have T:=HG F;refine AJ (W.mono (Q:=λz=>z++s=E9 (l.take (i+1))/\z.length<=1000) ?_ ?_)
 ·rw[hS.j];refine Be (λhp=>Ce (zi (by simp;omega)) (AB ⟨?_,by simp;omega⟩)) (λZ=>AB ⟨?_,by omega⟩)
  ·rw[T,QW _ _ (by intro h;rw[h]at hti;simp at hti;omega)];simp
  ·have:i=0:=by omega
   subst this;rw[T];rfl
 rintro z ⟨hz,hzl⟩;refine Ce (zi (by omega)) ?_;obtain⟨e,r,tt⟩:=tx s hs60;obtain⟨a,hP⟩:=tt.p;rw[hP,za];dsimp only;rw[hz];by_cases h0:r=0
 ·subst h0;obtain⟨⟨w,q1,q2⟩,Y,U⟩:=tt.n;rw[show((0:Int)==0)=true from rfl,Bd,Y,za];rcases U with⟨h1,E⟩|⟨R,h,I⟩
  ·dsimp only at h1 E;subst h1;dsimp only;rw[za];dsimp only;rw[Gi,zm E];exact hS.bad F ⟨e,0,tt,λ_=>⟨q1,q2,Y,E⟩⟩ b2
  ·cases h;have hRl:Rl s R:=⟨e,tt,Y,I⟩;dsimp only;rw[za];dsimp only;rw[show((0:Int) !=0)=false from rfl,Az];rcases hS.c with⟨rfl,rs,h1,E,h3⟩|⟨b,rfl,h1,E,h3⟩
   ·have M:∀(j:Nat) s,j<i+1->l[j]?=some s->∃R',(rs++[R])[j]?=some R'/\Rl s R':=by
     intro j s' G C;by_cases S:j=i
     ·subst S;rw[F]at C;cases C;exact⟨R,by rw[List.getElem?_append_right (by omega),h1,yy];rfl,hRl⟩
     ·obtain⟨R',e1,e2⟩:=E j s' (by omega) C;exact⟨R',by rw[List.getElem?_append_left (by omega)];exact e1,e2⟩
    have B:=Rf rs R p;rw[show(decide ((-1:Int)<0)&&e.Names)=e.Names from by rw[show decide ((-1:Int)<0)=true from by decide,qr]];have J:=I.x;rcases h3 with⟨rfl,h4,h5⟩|⟨rfl,h4⟩
    ·rw[h4,za]at B;unfold UG at B;rw[J]at B;rw[zi (show(x4.length:Int)<=4096 by omega),Bool.and_true];cases hN':e.Names with
     |false=>
      rw[hN',zm (by decide)]at B;rw[Az,za];exact AB ⟨rfl,b2,.inl ⟨rfl,rs++[R],by simp[h1],M,.inl ⟨by rw[zi (show(x4.length:Int)<=4096 by omega)];rfl,B,h5⟩⟩⟩
     | true=>
      obtain⟨v,X,_⟩:=Ov I x4 h5;rw[hN',zk rfl,X]at B;dsimp only at B;rw[Bd,X,za,za];by_cases hvl:v.length<=4096
      ·rw[zk hvl]at B;exact AB ⟨rfl,b2,.inl ⟨rfl,rs++[R],by simp[h1],M,.inl ⟨by rw[zi (show(v.length:Int)<=4096 by omega)];rfl,B,hvl⟩⟩⟩
      ·rw[zm hvl]at B;exact AB ⟨rfl,b2,.inl ⟨rfl,rs++[R],by simp[h1],M,.inr ⟨by rw[zh (show ¬(v.length:Int)<=4096 by omega)];rfl,B⟩⟩⟩
    ·rw[h4]at B;refine AJ (W.mono (Q:=λ_=>True) (Am (λhh=>?_) λ_=>AB trivial) λv _=>?_)
     ·simp only[zj,zx]at hh;exact AJ ((Ov I x4 (by omega)).mono λv _=>AB trivial)
     ·exact AB ⟨rfl,b2,.inl ⟨rfl,rs++[R],by simp[h1],M,.inr ⟨rfl,B⟩⟩⟩
   ·rw[show decide (((b:Nat):Int)<0)=false from zh (by omega),qm,qm,Az,za];exact AB ⟨rfl,b2,.inr ⟨b,rfl,by omega,E,h3⟩⟩
 ·rw[show(r==0)=false from by rw[yT];exact h0,Az,za];dsimp only;rw[Gi,zm h0];exact hS.bad F ⟨e,r,tt,λh=>absurd h h0⟩ b2
theorem Qw(l:List (List UInt8)){Q0:Prop}(k0:Q0)(p:List UInt8){Q1:Prop}(k1:Q1):EU l p=some true:=by
 refine W.eq ?_;unfold EU;refine Am (λ_=>aw rfl) λF=>?_;simp only[zG,zB]at F;have K:l.length<=4:=by omega
 have hp:p.length<=60:=by omega
 refine AJ ((Wq l p K hp).mono λo H=>?_);rcases o with⟨x7,x8,x9,x10⟩|b
 rotate_left
 ·exact AB H
 have H:St l p l.length x7 x8 x9 x10:=H;dsimp only;have G:=H.j;have hg:=H.g;rw[qe]at G hg;subst G;by_cases h0:l=[]
 ·subst h0;have hE:EB (E9 [])=some ([],false):=by
   unfold EB;rw[show E9 []=[] from rfl,DM (r:=(([]:List (List UInt8)),false)) rfl];rfl
  have hE2:Fs (E9 []) 4096 4096=some (none,0,11):=by
   unfold Fs;rw[hE];rfl
  rw[hE2,za];exact AJ (aw (AB rfl))
 have N:∀x∈l,x.length<=60:=λx J=>by obtain⟨_,_,g⟩:=hg x J;exact g.len.2
 have hlen:((l.length:Int)==0)=false:=(Fw l.length 0).trans (zh λh=>h0 (qf.1 h));refine AJ ((WU l h0 K hg).mono λr V=>?_);obtain⟨w,v1,v2⟩:=r;dsimp only;rcases H.c with⟨rfl,rs,e1,e2,e3⟩|⟨b,rfl,e1,⟨s,e2,e4⟩,e3⟩
 ·rcases V with⟨rs',h,h1,E⟩|⟨h,U,k,hk,V⟩
  ·cases h;have hrs:rs'=rs:=by
    apply qa;intro j;by_cases hjl:j<l.length
    ·obtain⟨R,a1,a2⟩:=e2 j _ hjl (List.getElem?_eq_getElem hjl);obtain⟨R',b1,b2⟩:=E j _ (List.getElem?_eq_getElem hjl);rw[a1,b1,a2.fn b2]
    ·rw[List.getElem?_eq_none (by omega),List.getElem?_eq_none (by omega)]
   subst hrs;have I:∀R∈rs',∃x,Nn x R:=by
    intro R O;obtain⟨j,G⟩:=List.getElem?_of_mem O;have hjl:=(List.getElem?_eq_some_iff.1 G).1;obtain⟨R',b1,e,_,_,b2⟩:=E j _ (List.getElem?_eq_getElem (show j<l.length by omega));rw[G]at b1;cases b1;exact⟨e,b2⟩
   have hnm:=UK (rs:=rs') (by omega) I p hp;dsimp only;rw[hlen,Az,show decide ((-1:Int)>=0)=false from by decide,Az];unfold Em;rw[show(((0:Int) !=0)||false)=false from rfl,Az,za,za];dsimp only;rw[h1,bne_self_eq_false,Az,hnm,za];rcases e3 with⟨rfl,h4,_⟩|⟨rfl,h4⟩
   ·rw[h4];dsimp only;rw[z6,Az,yO,yO,qc,Bd];exact AJ (aw (AB rfl))
   ·rw[h4];exact AJ (aw (AB rfl))
  ·exfalso;rcases V with⟨⟨s,e,r,a1,a2,a3⟩,_⟩|⟨_,⟨s,a1,a2⟩,_⟩
   ·obtain⟨R,_,O⟩:=e2 k s (List.getElem?_eq_some_iff.1 a1).1 a1;exact a3 (O.tx a2)
   ·obtain⟨R,_,O⟩:=e2 k s (List.getElem?_eq_some_iff.1 a1).1 a1;exact O.no a2
 ·rcases V with⟨rs',h,h1,E⟩|⟨h,U,k,hk,V⟩
  ·exfalso;obtain⟨R,_,O⟩:=E b s e2;exact O.no e4
  ·dsimp only at h U hk;subst h;subst hk;dsimp only;rw[hlen,Az,zi (show((b:Nat):Int)>=0 by omega),Bd,Gi,zm U];have key:W ((Ae (((k:Nat):Int)==((b:Nat):Int)) (some true) ((Cx l).bind λx52=>(Ae (decide (x52>=0)) ((Cx l).bind λx54=>some (((k:Nat):Int)==x54)) (some false):Option (Bool)).bind λx53=>some x53):Option (Bool))) λr=>r=true:=by
    rcases V with⟨⟨s',e',r',a1,a2,a3⟩,a4⟩|⟨_,⟨s',a1,a2⟩,a4⟩
    ·refine Am (λ_=>AB rfl) λ_=>?_;obtain⟨v,X,hvq⟩:=WZ l (by omega) N;have hvk:v=(k:Int):=by
      rcases hvq with⟨_,hall⟩|⟨k',rfl,⟨s2,e2',r2,c1,c2,c3⟩,c4⟩
      ·obtain⟨e'',t''⟩:=hall k s' a1;exact absurd (a2.fn t'').2 a3
      ·rcases qb k' k with D|rfl|D
       ·obtain⟨e'',t''⟩:=a4 k' s2 D c1;exact absurd (c2.fn t'').2 c3
       ·rfl
       ·obtain⟨e'',t''⟩:=c4 k s' D a1;exact absurd (a2.fn t'').2 a3
     subst hvk;rw[X,za,zi (by omega),Bd,za,yO];exact AB rfl
    ·have:k=b:=by
      rcases qb k b with D|rfl|D
      ·obtain⟨R,O⟩:=e3 k s' D a1;exact absurd a2 λh=>O.no h
      ·rfl
      ·obtain⟨R,O⟩:=a4 b s D e2;exact absurd e4 λh=>O.no h
     subst this;rw[yO,Bd];exact AB rfl
   rw[key.eq,za,za,Bd];exact AJ (aw (AB rfl))
end Go.Av.L
end
/-
 A part.
-/
section
namespace Go.Av
open Go
theorem LY{P:Program}{x:String×DataW Unit}{r:List (String×DataW Unit)}{w:World}(h:laidMet P (x::r) w):laidMet P r w:=by
 obtain⟨ps,X,hnd,hrows⟩:=h;obtain⟨n,d⟩:=x;obtain⟨g,t,cs,fuel,p,q,_,_,_,_,U,rfl⟩:=X;exact⟨q,U,List.Nodup.sublist (List.sublist_append_right _ _) hnd,λb off hm=>hrows b off (qQ _ hm)⟩
def S5(W:World)(g:Nat)(cs:List AE):Prop:=
 g<W.heap.size/\∃cur e fz,W.heap[g]?=some (.cells cur e fz)/\∀(j:Nat) (a:AE),cs[j]?=some a->a.one=true/\Av.KT a=true/\∃c,cur[j]?=some c/\VR ⟨λ_=>none,λ_ _=>none,λ_=>False⟩ a c
theorem KA{P:Program}{W:World}{name:String}{k:IntKind}{zs:List Int}{g:Nat}(hg:P.globalNamed name=some g)(h:Lib.TabIs P W name k zs):S5 W g (zs.map λz=>AE.int k z):=by
 unfold Lib.TabIs World.var? at h;rw[hg]at h;simp only[za]at h;split at h
 ·rename_i cs e fz hc;injection h with h;have D:g<W.heap.size:=by
   by_cases D:g<W.heap.size
   ·exact D
   ·rw[Array.getElem?_eq_none (by omega)]at hc;cases hc
  refine⟨D,cs,e,fz,hc,λj a ha=>?_⟩;rw[List.getElem?_map,zg]at ha;obtain⟨z,hz,rfl⟩:=ha;refine⟨rfl,rfl,.int k z,?_,VR.int k z⟩;rw[h];simp[hz]
 ·cases h
theorem OC{W:World}{g:Nat}{cs:List AE}{l:List (Nat×List AE)}(h:S5 W g cs)(Z:cs=[]->∃n:Int,W.cell? ⟨g,0,none⟩=some (.int .i64 n))(K:EF (Mi l) W):EF (Mi ((g,cs)::l)) W:=⟨λg' cs' e=>by
 unfold Mi at e;rw[Jy]at e;by_cases J:g=g'
 ·rw[zk J]at e;have:=zw e;subst this;subst J;exact h
 ·rw[zm J]at e;exact K.1 g' cs' e,λg' e=>by
 unfold Mi at e;rw[Jy]at e;by_cases J:g=g'
 ·rw[zk J]at e;have:=zw e;subst J;exact Z this
 ·rw[zm J]at e
  exact K.2 g' e⟩
theorem Mq{W:World}{g:Nat}{a:AE}{cs:List AE}{l:List (Nat×List AE)}(h:S5 W g (a::cs))(K:EF (Mi l) W):EF (Mi ((g,a::cs)::l)) W:=OC h (λh=>by cases h) K
theorem Uv{W:World}{g:Nat}{l:List (Nat×List AE)}(h:∃n:Int,W.cell? ⟨g,0,none⟩=some (.int .i64 n))(K:EF (Mi l) W):EF (Mi ((g,[])::l)) W:=by
 refine OC ?_ (λ_=>h) K;obtain⟨n,Z⟩:=h;unfold World.cell? at Z;split at Z
 ·rename_i cs e fz hc;have hc':W.heap[g]?=some (.cells cs e fz):=hc;refine⟨?_,cs,e,fz,hc',λj a ha=>by simp at ha⟩;by_cases D:g<W.heap.size
  ·exact D
  ·rw[Array.getElem?_eq_none (by omega)]at hc';cases hc'
 ·cases Z
theorem Up(W:World):EF (Mi []) W:=⟨λg cs e=>(by cases e),λg e=>(by cases e)⟩
end Go.Av
end
