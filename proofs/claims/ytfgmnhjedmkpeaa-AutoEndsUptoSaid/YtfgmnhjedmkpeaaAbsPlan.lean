/-
 A part.
-/
import Derived.Test.YtfgmnhjedmkpeaaAbsStep
set_option linter.unusedSimpArgs false
namespace Go.Abs
open Go.RowKit
def Ja(acc:List Nat)(o:Oper):Nat:=o.after.toList.foldl (λs e=>if Region.binds .any e then s ||| 2^e.on ||| acc.getD e.on 0 else s) 0
def closure:List Oper->List Nat->List Nat
 |[],acc=>acc
 |o::os,acc=>closure os (acc++[Ja acc o])
theorem IK(acc:List Nat)(j:Nat):∀(l:List Edge) (s:Nat),(l.foldl (λs e=>if Region.binds .any e then s ||| 2^e.on ||| acc.getD e.on 0 else s) s).testBit j=true↔
  s.testBit j=true\/∃e∈l,Region.binds .any e=true/\(j=e.on\/(acc.getD e.on 0).testBit j=true)
 |[],s=>by simp
 | e::l,s=>by
  rw[List.foldl_cons,IK acc j l];by_cases L:Region.binds .any e=true
  ·simp only[L,if_true,Nat.testBit_or,xX,Nat.testBit_two_pow,decide_eq_true_eq,wb,exists_eq_or_imp,true_and];constructor
   ·rintro((((h|h)|h))|h)
    ·exact .inl h
    ·exact .inr (.inl (.inl h.symm))
    ·exact .inr (.inl (.inr h))
    ·exact .inr (.inr h)
   ·rintro(h|(h|h)|h)
    ·exact .inl (.inl (.inl h))
    ·exact .inl (.inl (.inr h.symm))
    ·exact .inl (.inr h)
    ·exact .inr h
  ·simp only[L,xo,if_false,wb,exists_eq_or_imp,false_and,false_or]
theorem EX:∀(l:List Oper) (acc:List Nat) (i:Nat),i<acc.length->(closure l acc)[i]?=acc[i]?
 |[],acc,i,_=>rfl
 |o::l,acc,i,h=>by rw[closure,EX l _ i (by simp;omega),List.getElem?_append_left h]
theorem FZ:∀(l:List Oper) (acc:List Nat) (k:Nat) (o:Oper) (j:Nat),l[k]?=some o->
  ((((closure l acc).getD (acc.length+k) 0).testBit j=true↔∃e∈o.after.toList,Region.binds .any e=true/\(j=e.on\/(e.on<acc.length+k/\((closure l acc).getD e.on 0).testBit j=true))))
 |[],acc,k,o,j,h=>by simp at h
 | o'::l,acc,0,o,j,h=>by
  simp only[List.getElem?_cons_zero,qV]at h;subst h;have e1:(closure (o'::l) acc).getD (acc.length+0) 0=Ja acc o':=by
   rw[xb,closure,EX l _ _ (by simp),List.getElem?_append_right (by omega)];simp
  rw[e1,Ja,IK];simp only[Nat.zero_testBit,xo,false_or];constructor
  ·rintro⟨e,he,L,h|h⟩
   ·exact⟨e,he,L,.inl h⟩
   ·refine⟨e,he,L,.inr ?_⟩;by_cases hlt:e.on<acc.length
    ·refine⟨by omega,?_⟩;rw[xb,closure,EX l _ _ (by simp;omega),List.getElem?_append_left hlt];simpa[xb]using h
    ·rw[xb,List.getElem?_eq_none (by omega)]at h;simp at h
  ·rintro⟨e,he,L,h|⟨hlt,h⟩⟩
   ·exact⟨e,he,L,.inl h⟩
   ·refine⟨e,he,L,.inr ?_⟩;rw[xb,closure,EX l _ _ (by simp;omega),List.getElem?_append_left (by omega)]at h;simpa[xb]using h
 |o'::l,acc,k+1,o,j,h=>by
  have ih:=FZ l (acc++[Ja acc o']) k o j (by simpa using h);simp only[wd,xx,wq]at ih;rw[show acc.length+(k+1)=acc.length+(0+1)+k by omega];exact ih
def dep(cl:List Nat)(i j:Nat):Bool:=(cl.getD j 0).testBit i
def HM(P:Program)(ops:Array Oper)(cl:List Nat)(x y:Nat×List Nat):Bool:=
  (x.1 !=y.1)&& !dep cl y.1 x.1&&
  (dep cl x.1 y.1||
    (match ops[x.1]?,ops[y.1]? with
     |some a,some b=>a.apart ops b&&(AX P b.op==0||AX P a.op==0||(AX P a.op !=3&&(AX P b.op !=3||y.2.any (Nat.beq x.1))))
     |_,_=>false))
def Hz(P:Program)(ops:Array Oper)(cl:List Nat):List (Nat×List Nat)->Bool
 |[]=>true
 |x::l=>l.all (λy=>HM P ops cl x y)&&Hz P ops cl l
def Hw:List Oper->Nat->Bool
 |[],_=>true
 |o::l,i=>o.after.toList.all (λe=> !Region.binds .any e||Nat.blt e.on i)&&Hw l (i+1)
theorem IG:∀{l:List Oper} {i:Nat},Hw l i=true->∀{k:Nat} {o:Oper} {e:Edge},l[k]?=some o->e∈o.after.toList->Region.binds .any e=true->e.on<i+k
 |[],_,_,k,o,e,hk,_,_=>by simp at hk
 | o'::l,i,h,k,o,e,hk,he,L=>by
  simp only[Hw,xf]at h;cases k with
  |zero=>
   simp only[List.getElem?_cons_zero,qV]at hk;subst hk;have:=xk.1 h.1 e he;rw[L]at this;simp only[Bool.not_true,Bool.false_or,wv]at this;omega
  |succ k=>
   have:=IG h.2 (k:=k) (by simpa using hk) he L;omega
def IN(P:Program)(ops:Array Oper)(pl:List (Nat×List Nat)):Bool:=
 let cl:=closure ops.toList []
 Hw ops.toList 0&&pl.all (λx=>Nat.blt x.1 ops.size)&&(List.range ops.size).all (λi=>pl.any λx=>Nat.beq x.1 i)&&Hz P ops cl pl
theorem IE{P:Program}{ops:Array Oper}{cl:List Nat}:∀{pl:List (Nat×List Nat)},Hz P ops cl pl=true->∀{p q:Nat} {x y:Nat×List Nat},p<q->pl[p]?=some x->pl[q]?=some y->HM P ops cl x y=true
 |[],_,p,q,x,y,_,G,_=>by simp at G
 | z::l,h,p,q,x,y,J,G,hy=>by
  simp only[Hz,xf]at h;cases q with
  |zero=>omega
  | succ q=>
   have Z:l[q]?=some y:=by simpa using hy
   cases p with
   |zero=>
    simp only[List.getElem?_cons_zero,qV]at G;subst G;exact xk.1 h.1 y (xd Z)
   |succ p=>exact IE h.2 (p:=p) (q:=q) (by omega) (by simpa using G) Z
section
variable {C:Eu} {S:Self}
structure Gc(C:Eu)(S:Self)(g:Gd)(ops:Array Oper)(pl:List (Nat×List Nat))(F:Nat->Fr)(H:Nat->AB)(T:Nat->List (Nat×Nat)):Prop where
  step:∀p x,pl[p]?=some x->∃o,ops[x.1]?=some o/\
    ((A6 ops (F p) o=some false/\F (p+1)=put (F p) o.dst (.tuple [])/\H (p+1)=H p/\T (p+1)=T p)\/
     (A6 ops (F p) o=some true/\∃v,Ap C S ⟨g.floor,EA (T p) x.2++g.B4⟩ (H p) (F p) o.op=some (v,H (p+1))/\F (p+1)=put (F p) o.dst v/\T (p+1)=C0 C.P (H p) (F p) x.1 o.op (T p)))
theorem F2{g:Gd}{ops:Array Oper}:∀(pl:List (Nat×List Nat)) (t:List (Nat×Nat)) (fr:Fr) (h:AB) (fr':Fr) (h':AB),BA C S g ops pl t fr h=some (fr',h')->
    ∃F H T,Gc C S g ops pl F H T/\F 0=fr/\H 0=h/\T 0=t/\F pl.length=fr'/\H pl.length=h'
  | [],t,fr,h,fr',h',K=>by
    simp only[BA,qV,qY]at K;obtain⟨rfl,rfl⟩:=K;exact⟨λ_=>fr,λ_=>h,λ_=>t,⟨λp x G=>by simp at G⟩,rfl,rfl,rfl,rfl,rfl⟩
  | (i, U) ::pl,t,fr,h,fr',h',K=>by
    unfold BA at K;split at K
    · cases K
    · rename_i o X
      have glue:∀(fr1:Fr) (h1:AB) (t1:List (Nat×Nat)),BA C S g ops pl t1 fr1 h1=some (fr',h')->
          ((A6 ops fr o=some false/\fr1=put fr o.dst (.tuple [])/\h1=h/\t1=t)\/
           (A6 ops fr o=some true/\∃v,Ap C S ⟨g.floor,EA t U++g.B4⟩ h fr o.op=some (v,h1)/\fr1=put fr o.dst v/\t1=C0 C.P h fr i o.op t))->
          ∃F H T,Gc C S g ops ((i,U)::pl) F H T/\F 0=fr/\H 0=h/\T 0=t/\F ((i,U)::pl).length=fr'/\H ((i,U)::pl).length=h':=by
        intro fr1 h1 t1 hrest R;obtain⟨F,H,T,B,rfl,rfl,rfl,W,V⟩:=F2 pl t1 fr1 h1 fr' h' hrest;refine⟨fun|0=>fr|p+1=>F p,fun|0=>h|p+1=>H p,fun|0=>t|p+1=>T p,⟨λp x G=>?_⟩,rfl,rfl,rfl,by simpa using W,by simpa using V⟩;cases p with
        | zero=>
          simp only[List.getElem?_cons_zero,qV]at G;subst G;exact⟨o,X,R⟩
        |succ p=>exact B.step p x (by simpa using G)
      split at K
      · rename_i hw
        split at K
        · rename_i v h1 E
          exact glue _ _ _ K (.inr ⟨hw,v,E,rfl,rfl⟩)
        · cases K
      · rename_i hw
        exact glue _ _ _ K (.inl ⟨hw,rfl,rfl,rfl⟩)
      · cases K
end
def Ae(pl:List (Nat×List Nat))(p:Nat):Nat:=(pl.getD p (0,[])).1
def Gx(pl:List (Nat×List Nat))(p:Nat):List Nat:=(pl.getD p (0,[])).2
def Al(ops:Array Oper)(pl:List (Nat×List Nat))(p:Nat):Oper:=ops.getD (Ae pl p) default
structure Gf(P:Program)(ops:Array Oper)(pl:List (Nat×List Nat)):Prop where
 lt:∀p,p<pl.length->ops[Ae pl p]?=some (Al ops pl p)
 WT:∀i,i<ops.size->∃p,p<pl.length/\Ae pl p=i
 W7:∀p,p<pl.length->∀e∈(Al ops pl p).after.toList,Region.binds .any e=true->e.on<Ae pl p
 ne:∀p q,p<q->q<pl.length->Ae pl p≠Ae pl q
 Qp:∀p q,p<q->q<pl.length->dep (closure ops.toList []) (Ae pl q) (Ae pl p)=false
 pair:∀p q,p<q->q<pl.length->dep (closure ops.toList []) (Ae pl p) (Ae pl q)=true\/
  ((Al ops pl p).apart ops (Al ops pl q)=true/\(AX P (Al ops pl q).op=0\/AX P (Al ops pl p).op=0\/
   (AX P (Al ops pl p).op≠3/\(AX P (Al ops pl q).op≠3\/(Gx pl q).any (Nat.beq (Ae pl p))=true))))
theorem LV{P:Program}{ops:Array Oper}{pl:List (Nat×List Nat)}(h:IN P ops pl=true):Gf P ops pl:=by
 simp only[IN,xf]at h;obtain⟨⟨⟨h0,h1⟩,I⟩,M⟩:=h;have get:∀p,p<pl.length->pl[p]?=some (Ae pl p,Gx pl p):=λp D=>by
  simp[Ae,Gx,xb,List.getElem?_eq_getElem D]
 have lt:∀p,p<pl.length->Ae pl p<ops.size:=λp D=>by
  have:=xk.1 h1 _ (xd (get p D));rw[wv]at this;exact this
 have lt':∀p,p<pl.length->ops[Ae pl p]?=some (Al ops pl p):=λp D=>by
  have:=lt p D;simp[Al,xc,this]
 have pk:∀p q,p<q->q<pl.length->HM P ops (closure ops.toList []) (Ae pl p,Gx pl p) (Ae pl q,Gx pl q)=true:=λp q J N=>
  IE M J (get p (by omega)) (get q N)
 refine⟨lt',λi hi=>?_,λp D e he L=>?_,λp q J N=>?_,λp q J N=>?_,λp q J N=>?_⟩
 ·have:=xk.1 I i (by simpa using hi);obtain⟨x,G,hxi⟩:=wm.1 this;obtain⟨p,D,rfl⟩:=List.mem_iff_getElem.1 G;refine⟨p,D,?_⟩;rw[<-xC hxi];simp[Ae,xb,List.getElem?_eq_getElem D]
 ·have:=IG h0 (k:=Ae pl p) (by simpa using lt' p D) he L;omega
 ·have:=pk p q J N;simp only[HM,xf,bne_iff_ne]at this;exact this.1.1
 ·have:=pk p q J N;simp only[HM,xf,xn]at this;exact this.1.2
 ·have:=pk p q J N;simp only[HM,xf,xX]at this;rcases this.2 with Y|Y
  ·exact .inl Y
  ·right;rw[lt' p (by omega),lt' q N]at Y;simp only[xf,xX,xO,bne_iff_ne]at Y;refine⟨Y.1,?_⟩;rcases Y.2 with(a|a)|⟨a,b⟩
   ·exact .inl a
   ·exact .inr (.inl a)
   ·exact .inr (.inr ⟨a,b⟩)
def D1(f:Nat->Bool):Nat->Nat->Nat
 |s,0=>s
 |s,k+1=>if f s=true then s else D1 f (s+1) k
theorem Bn(f:Nat->Bool):∀(k s:Nat),s<=D1 f s k/\D1 f s k<=s+k/\(∀p,s<=p->p<D1 f s k->f p=false)/\(D1 f s k<s+k->f (D1 f s k)=true)
 |0,s=>⟨xe _,xe _,λp h1 I=>by simp[D1]at I;omega,λh=>by simp[D1]at h⟩
 | k+1,s=>by
  unfold D1;by_cases hf:f s=true
  ·rw[xj hf];exact⟨xe _,by omega,λp h1 I=>by omega,λ_=>hf⟩
  ·rw[xg hf];obtain⟨a,b,c,d⟩:=Bn f k (s+1);refine⟨by omega,by omega,λp h1 I=>?_,λh=>d (by omega)⟩;by_cases e:p=s
   ·subst e;simpa using hf
   ·exact c p (by omega) I
theorem G0(f:Nat->Bool){n r:Nat}(K:r<=n)(h1:∀p,p<r->f p=false)(I:r<n->f r=true):D1 f 0 n=r:=by
 obtain⟨a,b,c,d⟩:=Bn f n 0;rcases Nat.lt_trichotomy (D1 f 0 n) r with h|h|h
 ·have:=h1 _ h;rw[d (by omega)]at this;cases this
 ·exact h
 ·have:=c r (by omega) h;rw[I (by omega)]at this;cases this
section
variable {C:Eu} {S:Self} {g:Gd} {ops:Array Oper} {pl:List (Nat×List Nat)} {F:Nat->Fr} {H:Nat->AB} {T:Nat->List (Nat×Nat)}
theorem Gc.at_(B:Gc C S g ops pl F H T)(D:Gf C.P ops pl){p:Nat}(h:p<pl.length):
  (A6 ops (F p) (Al ops pl p)=some false/\F (p+1)=put (F p) (Al ops pl p).dst (.tuple [])/\H (p+1)=H p/\T (p+1)=T p)\/
  (A6 ops (F p) (Al ops pl p)=some true/\∃v,Ap C S ⟨g.floor,EA (T p) (Gx pl p)++g.B4⟩ (H p) (F p) (Al ops pl p).op=some (v,H (p+1))/\F (p+1)=put (F p) (Al ops pl p).dst v/\
   T (p+1)=C0 C.P (H p) (F p) (Ae pl p) (Al ops pl p).op (T p)):=by
 have G:pl[p]?=some (Ae pl p,Gx pl p):=by simp[Ae,Gx,xb,List.getElem?_eq_getElem h]
 obtain⟨o,X,R⟩:=B.step p _ G;rw[D.lt p h]at X;injection X with X;subst X;exact R
theorem Gc.len(B:Gc C S g ops pl F H T)(D:Gf C.P ops pl):∀p,p<=pl.length->(F p).length=(F 0).length
 |0,_=>rfl
 |p+1,h=>by
  rw[<-Gc.len B D p (by omega)];rcases B.at_ D (p:=p) (by omega)with⟨_,W,_⟩|⟨_,v,_,W,_⟩<;>rw[W]<;>simp
theorem Jq(fr:Fr){d:Option Tmp}{t:Nat}(v:AA)(h:d≠some t):nth (put fr d v) t=nth fr t:=by
 cases d with
 |none=>rfl
 |some d=>
  simp only[put];rw[Ey,xg (by rintro⟨rfl,_⟩;exact h rfl)]
theorem Gc.slot(B:Gc C S g ops pl F H T)(D:Gf C.P ops pl){t p:Nat}:∀q,p<=q->q<=pl.length->(∀x,p<=x->x<q->(Al ops pl x).dst≠some t)->nth (F q) t=nth (F p) t
 |0,h1,_,_=>by rw[show p=0 by omega]
 | q+1,h1,I,M=>by
  by_cases e:p=q+1
  ·rw[e]
  ·rw[<-Gc.slot B D q (by omega) (by omega) (λx a b=>M x a (by omega))];have hne:=M q (by omega) (by omega);rcases B.at_ D (p:=q) (by omega)with⟨_,W,_⟩|⟨_,v,_,W,_⟩<;>rw[W,Jq _ _ hne]
theorem Gc.keeps(B:Gc C S g ops pl F H T)(D:Gf C.P ops pl)(Q:E9 C.P C.B6 S.call){p:Nat}(h:p<pl.length):Af ⟨g.floor,EA (T p) (Gx pl p)++g.B4⟩ (H p) (H (p+1)):=by
 rcases B.at_ D h with⟨_,_,V,_⟩|⟨_,v,E,_,_⟩
 ·rw[V];exact Af.refl _ _
 ·exact Fw Q E
theorem Gc.size(B:Gc C S g ops pl F H T)(D:Gf C.P ops pl)(Q:E9 C.P C.B6 S.call){p:Nat}:∀q,p<=q->q<=pl.length->(H p).size<=(H q).size
 |0,h1,_=>by rw[show p=0 by omega];exact xe _
 |q+1,h1,I=>by
  by_cases e:p=q+1
  ·rw[e];exact xe _
  ·exact xq (Gc.size B D Q q (by omega) (by omega)) (B.keeps D Q (p:=q) (by omega)).1
theorem LO{g:Gd}{t:List (Nat×Nat)}{U:List Nat}{i id:Nat}(h1:(i,id)∈t)(I:U.any (Nat.beq i)=true):(⟨g.floor,EA t U++g.B4⟩:Gd).may id=false:=by
 have:(EA t U++g.B4).any (Nat.beq id)=true:=by
  refine wm.2 ⟨id,wo.2 (.inl (List.mem_filterMap.2 ⟨(i,id),h1,?_⟩)),wA id⟩;simp[I]
 simp[Gd.may,this]
theorem K1{g:Gd}{l:List Nat}(id:Nat)(h:g.may id=false):(⟨g.floor,l++g.B4⟩:Gd).may id=false:=by
 simp only[Gd.may,xI,we]at h⊢;rcases h with h|h
 ·exact .inl h
 ·right;simp[List.any_append,h]
theorem Gc.told(B:Gc C S g ops pl F H T)(D:Gf C.P ops pl){p:Nat}{x:Nat×Nat}(G:x∈T p):∀q,p<=q->q<=pl.length->x∈T q
 |0,h1,_=>by rw[show 0=p by omega];exact G
 | q +1,h1,I=>by
  by_cases e:p=q+1
  ·rw[<-e];exact G
  ·have ih:=Gc.told B D G q (by omega) (by omega);rcases B.at_ D (p:=q) (by omega)with⟨_,_,_,hT⟩|⟨_,v,_,_,hT⟩
   ·rw[hT];exact ih
   ·rw[hT];unfold C0;split
    ·split
     ·exact xD _ ih
     ·exact ih
    ·exact xD _ ih
    ·exact ih
theorem Gc.same(B:Gc C S g ops pl F H T)(D:Gf C.P ops pl)(Q:E9 C.P C.B6 S.call){p i id:Nat}(G:(i,id)∈T p)(hid:id<(H p).size):
  ∀q,p<=q->q<=pl.length->(∀x,p<=x->x<q->AX C.P (Al ops pl x).op=3->(Gx pl x).any (Nat.beq i)=true)->(H q).get id=(H p).get id
 |0,h1,_,_=>by rw[show p=0 by omega]
 | q + 1,h1,I,M=>by
  by_cases e:p=q+1
  ·rw[e]
  ·rw [<-Gc.same B D Q G hid q (by omega) (by omega) (λx a b=>M x a (by omega))];have O:id<(H q).size:=xi hid (B.size D Q q (by omega) (by omega));by_cases hc:AX C.P (Al ops pl q).op=3
   ·exact(B.keeps D Q (p:=q) (by omega)).2 id O (LO (B.told D G q (by omega) (by omega)) (M q (by omega) (by omega) hc))
   ·rcases B.at_ D (p:=q) (by omega)with⟨_,_,V,_⟩|⟨_,v,E,_,_⟩
    ·rw[V]
    ·rw[Dy hc]at E;unfold Fp at E;split at E
     ·simp only[xa,qY]at E;obtain⟨_,_,_,e⟩:=E;rw[<-e]
     ·split at E
      ·simp only[xa,qY]at E;obtain⟨_,_,_,e⟩:=E;rw[<-e]
      ·split at E
       ·simp only[xa,qY]at E;obtain⟨_,_,_,e⟩:=E;rw[<-e]
       ·cases E
     ·simp only[xa,qY]at E;obtain⟨_,_,_,e⟩:=E;rw[<-e];exact AB.Bp _ _ O
     ·rename_i h0 h1 I;exfalso;have:∀op,AX C.P op=0\/AX C.P op=1\/AX C.P op=2\/AX C.P op=3:=by
       intro op;unfold AX
       repeat' split
       all_goals simp
      rcases this (Al ops pl q).op with h|h|h|h
      ·exact h0 h
      ·exact h1 h
      ·exact I h
      ·exact hc h
theorem Gc.Jn(B:Gc C S g ops pl F H T)(D:Gf C.P ops pl){w0:World}{m:Aj}{w:World}{p:Nat}(r:Rel C.P w0 m (H p) w):
  ∀q,p<=q->q<=pl.length->(∀x,p<=x->x<q->AX C.P (Al ops pl x).op≠3)->Rel C.P w0 m (H q) w
 |0,h1,_,_=>by rw[show 0=p by omega];exact r
 | q +1,h1,I,M=>by
  by_cases e:p=q+1
  ·rw[<-e];exact r
  ·have ih:=Gc.Jn B D r q (by omega) (by omega) (λx a b=>M x a (by omega));have hc:=M q (by omega) (by omega);rcases B.at_ D (p:=q) (by omega)with⟨_,_,V,_⟩|⟨_,v,E,_,_⟩
   ·rw[V];exact ih
   ·rw[Dy hc]at E;unfold Fp at E;split at E
    ·simp only[xa,qY]at E;obtain⟨_,_,_,e⟩:=E;rw[<-e];exact ih
    ·split at E
     ·simp only[xa,qY]at E;obtain⟨_,_,_,e⟩:=E;rw[<-e];exact ih
     ·split at E
      ·simp only[xa,qY]at E;obtain⟨_,_,_,e⟩:=E;rw[<-e];exact ih
      ·cases E
    ·simp only[xa,qY]at E;obtain⟨_,_,_,e⟩:=E;rw[<-e];exact ih.ghost _
    ·rename_i h0 h1 I;exfalso;have:∀op,AX C.P op=0\/AX C.P op=1\/AX C.P op=2\/AX C.P op=3:=by
      intro op;unfold AX
      repeat' split
      all_goals simp
     rcases this (Al ops pl q).op with h|h|h|h
     ·exact h0 h
     ·exact h1 h
     ·exact I h
     ·exact hc h
end
end Go.Abs
