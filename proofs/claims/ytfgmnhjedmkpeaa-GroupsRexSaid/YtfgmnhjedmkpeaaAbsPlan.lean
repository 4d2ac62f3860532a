/-
 A part.
-/
import Derived.Test.YtfgmnhjedmkpeaaAbsStep
set_option linter.unusedSimpArgs false
namespace Go.Abs
open Go.RowKit
def Lm(acc:List Nat)(o:Oper):Nat:=o.after.toList.foldl (λs e=>if Region.binds .any e then s ||| 2^e.on ||| acc.getD e.on 0 else s) 0
def closure:List Oper->List Nat->List Nat
 |[],acc=>acc
 |o::os,acc=>closure os (acc++[Lm acc o])
theorem Jz(acc:List Nat)(j:Nat):∀(l:List Edge) (s:Nat),(l.foldl (λs e=>if Region.binds .any e then s ||| 2^e.on ||| acc.getD e.on 0 else s) s).testBit j=true↔
  s.testBit j=true\/∃e∈l,Region.binds .any e=true/\(j=e.on\/(acc.getD e.on 0).testBit j=true)
 |[],s=>by simp
 | e::l,s=>by
  rw[List.foldl_cons,Jz acc j l];by_cases L:Region.binds .any e=true
  ·simp only[L,if_true,Nat.testBit_or,xQ,Nat.testBit_two_pow,decide_eq_true_eq,xS,exists_eq_or_imp,true_and];constructor
   ·rintro((((h|h)|h))|h)
    ·exact .inl h
    ·exact .inr (.inl (.inl h.symm))
    ·exact .inr (.inl (.inr h))
    ·exact .inr (.inr h)
   ·rintro(h|(h|h)|h)
    ·exact .inl (.inl (.inl h))
    ·exact .inl (.inl (.inr h.symm))
    ·exact .inl (.inr h)
    ·exact .inr h
  ·simp only[L,xw,if_false,xS,exists_eq_or_imp,false_and,false_or]
theorem Fs:∀(l:List Oper) (acc:List Nat) (i:Nat),i<acc.length->(closure l acc)[i]?=acc[i]?
 |[],acc,i,_=>rfl
 |o::l,acc,i,h=>by rw[closure,Fs l _ i (by simp;omega),List.getElem?_append_left h]
theorem GY:∀(l:List Oper) (acc:List Nat) (k:Nat) (o:Oper) (j:Nat),l[k]?=some o->
  ((((closure l acc).getD (acc.length+k) 0).testBit j=true↔∃e∈o.after.toList,Region.binds .any e=true/\(j=e.on\/(e.on<acc.length+k/\((closure l acc).getD e.on 0).testBit j=true))))
 |[],acc,k,o,j,h=>by simp at h
 | o'::l,acc,0,o,j,h=>by
  simp only[List.getElem?_cons_zero,qU]at h;subst h;have e1:(closure (o'::l) acc).getD (acc.length+0) 0=Lm acc o':=by
   rw[qY,closure,Fs l _ _ (by simp),List.getElem?_append_right (by omega)];simp
  rw[e1,Lm,Jz];simp only[Nat.zero_testBit,xw,false_or];constructor
  ·rintro⟨e,he,L,h|h⟩
   ·exact⟨e,he,L,.inl h⟩
   ·refine⟨e,he,L,.inr ?_⟩;by_cases hlt:e.on<acc.length
    ·refine⟨by omega,?_⟩;rw[qY,closure,Fs l _ _ (by simp;omega),List.getElem?_append_left hlt];simpa[qY]using h
    ·rw[qY,List.getElem?_eq_none (by omega)]at h;simp at h
  ·rintro⟨e,he,L,h|⟨hlt,h⟩⟩
   ·exact⟨e,he,L,.inl h⟩
   ·refine⟨e,he,L,.inr ?_⟩;rw[qY,closure,Fs l _ _ (by simp;omega),List.getElem?_append_left (by omega)]at h;simpa[qY]using h
 |o'::l,acc,k+1,o,j,h=>by
  have ih:=GY l (acc++[Lm acc o']) k o j (by simpa using h);simp only[List.length_append,xo,xY]at ih;rw[show acc.length+(k+1)=acc.length+(0+1)+k by omega];exact ih
def dep(cl:List Nat)(i j:Nat):Bool:=(cl.getD j 0).testBit i
def Iw(P:Program)(ops:Array Oper)(cl:List Nat)(x y:Nat×List Nat):Bool:=
  (x.1 !=y.1)&& !dep cl y.1 x.1&&
  (dep cl x.1 y.1||
    (match ops[x.1]?,ops[y.1]? with
     |some a,some b=>a.apart ops b&&(As P b.op==0||As P a.op==0||(As P a.op !=3&&(As P b.op !=3||y.2.any (Nat.beq x.1))))
     |_,_=>false))
def Jg(P:Program)(ops:Array Oper)(cl:List Nat):List (Nat×List Nat)->Bool
 |[]=>true
 |x::l=>l.all (λy=>Iw P ops cl x y)&&Jg P ops cl l
def Jf:List Oper->Nat->Bool
 |[],_=>true
 |o::l,i=>o.after.toList.all (λe=> !Region.binds .any e||Nat.blt e.on i)&&Jf l (i+1)
theorem J5:∀{l:List Oper} {i:Nat},Jf l i=true->∀{k:Nat} {o:Oper} {e:Edge},l[k]?=some o->e∈o.after.toList->Region.binds .any e=true->e.on<i+k
 |[],_,_,k,o,e,hk,_,_=>by simp at hk
 | o'::l,i,h,k,o,e,hk,he,L=>by
  simp only[Jf,xa]at h;cases k with
  |zero=>
   simp only[List.getElem?_cons_zero,qU]at hk;subst hk;have:=xg.1 h.1 e he;rw[L]at this;simp only[Bool.not_true,Bool.false_or,wb]at this;omega
  |succ k=>
   have:=J5 h.2 (k:=k) (by simpa using hk) he L;omega
def J4(P:Program)(ops:Array Oper)(pl:List (Nat×List Nat)):Bool:=
 let cl:=closure ops.toList []
 Jf ops.toList 0&&pl.all (λx=>Nat.blt x.1 ops.size)&&(List.range ops.size).all (λi=>pl.any λx=>Nat.beq x.1 i)&&Jg P ops cl pl
theorem Jv{P:Program}{ops:Array Oper}{cl:List Nat}:∀{pl:List (Nat×List Nat)},Jg P ops cl pl=true->∀{p q:Nat} {x y:Nat×List Nat},p<q->pl[p]?=some x->pl[q]?=some y->Iw P ops cl x y=true
 |[],_,p,q,x,y,_,G,_=>by simp at G
 | z::l,h,p,q,x,y,J,G,hy=>by
  simp only[Jg,xa]at h;cases q with
  |zero=>omega
  | succ q=>
   have Z:l[q]?=some y:=by simpa using hy
   cases p with
   |zero=>
    simp only[List.getElem?_cons_zero,qU]at G;subst G;exact xg.1 h.1 y (q9 Z)
   |succ p=>exact Jv h.2 (p:=p) (q:=q) (by omega) (by simpa using G) Z
section
variable {C:Gf} {S:Self}
structure H5(C:Gf)(S:Self)(g:Gd)(ops:Array Oper)(pl:List (Nat×List Nat))(F:Nat->Fr)(H:Nat->AE)(T:Nat->List (Nat×Nat)):Prop where
  step:∀p x,pl[p]?=some x->∃o,ops[x.1]?=some o/\
    ((Bp ops (F p) o=some false/\F (p+1)=put (F p) o.dst (.tuple [])/\H (p+1)=H p/\T (p+1)=T p)\/
     (Bp ops (F p) o=some true/\∃v,BI C S ⟨g.floor,FQ (T p) x.2++g.Bs⟩ (H p) (F p) o.op=some (v,H (p+1))/\F (p+1)=put (F p) o.dst v/\T (p+1)=EE C.P (H p) (F p) x.1 o.op (T p)))
theorem G9{g:Gd}{ops:Array Oper}:∀(pl:List (Nat×List Nat)) (t:List (Nat×Nat)) (fr:Fr) (h:AE) (fr':Fr) (h':AE),Bl C S g ops pl t fr h=some (fr',h')->
    ∃F H T,H5 C S g ops pl F H T/\F 0=fr/\H 0=h/\T 0=t/\F pl.length=fr'/\H pl.length=h'
  | [],t,fr,h,fr',h',K=>by
    simp only[Bl,qU,qW]at K;obtain⟨rfl,rfl⟩:=K;exact⟨λ_=>fr,λ_=>h,λ_=>t,⟨λp x G=>by simp at G⟩,rfl,rfl,rfl,rfl,rfl⟩
  | (i, U) ::pl,t,fr,h,fr',h',K=>by
    unfold Bl at K;split at K
    · cases K
    · rename_i o X
      have glue:∀(fr1:Fr) (h1:AE) (t1:List (Nat×Nat)),Bl C S g ops pl t1 fr1 h1=some (fr',h')->
          ((Bp ops fr o=some false/\fr1=put fr o.dst (.tuple [])/\h1=h/\t1=t)\/
           (Bp ops fr o=some true/\∃v,BI C S ⟨g.floor,FQ t U++g.Bs⟩ h fr o.op=some (v,h1)/\fr1=put fr o.dst v/\t1=EE C.P h fr i o.op t))->
          ∃F H T,H5 C S g ops ((i,U)::pl) F H T/\F 0=fr/\H 0=h/\T 0=t/\F ((i,U)::pl).length=fr'/\H ((i,U)::pl).length=h':=by
        intro fr1 h1 t1 hrest R;obtain⟨F,H,T,B,rfl,rfl,rfl,W,V⟩:=G9 pl t1 fr1 h1 fr' h' hrest;refine⟨fun|0=>fr|p+1=>F p,fun|0=>h|p+1=>H p,fun|0=>t|p+1=>T p,⟨λp x G=>?_⟩,rfl,rfl,rfl,by simpa using W,by simpa using V⟩;cases p with
        | zero=>
          simp only[List.getElem?_cons_zero,qU]at G;subst G;exact⟨o,X,R⟩
        |succ p=>exact B.step p x (by simpa using G)
      split at K
      · rename_i hw
        split at K
        · rename_i v h1 E
          exact glue _ _ _ K (.inr ⟨hw,v,E,rfl,rfl⟩)
        · cases K
      · rename_i hw
        exact glue _ _ _ K (.inl ⟨hw,rfl,rfl,rfl⟩)
      · cases K
end
def A9(pl:List (Nat×List Nat))(p:Nat):Nat:=(pl.getD p (0,[])).1
def IU(pl:List (Nat×List Nat))(p:Nat):List Nat:=(pl.getD p (0,[])).2
def BJ(ops:Array Oper)(pl:List (Nat×List Nat))(p:Nat):Oper:=ops.getD (A9 pl p) default
structure IC(P:Program)(ops:Array Oper)(pl:List (Nat×List Nat)):Prop where
 lt:∀p,p<pl.length->ops[A9 pl p]?=some (BJ ops pl p)
 Wl:∀i,i<ops.size->∃p,p<pl.length/\A9 pl p=i
 WS:∀p,p<pl.length->∀e∈(BJ ops pl p).after.toList,Region.binds .any e=true->e.on<A9 pl p
 ne:∀p q,p<q->q<pl.length->A9 pl p≠A9 pl q
 SO:∀p q,p<q->q<pl.length->dep (closure ops.toList []) (A9 pl q) (A9 pl p)=false
 pair:∀p q,p<q->q<pl.length->dep (closure ops.toList []) (A9 pl p) (A9 pl q)=true\/
  ((BJ ops pl p).apart ops (BJ ops pl q)=true/\(As P (BJ ops pl q).op=0\/As P (BJ ops pl p).op=0\/
   (As P (BJ ops pl p).op≠3/\(As P (BJ ops pl q).op≠3\/(IU pl q).any (Nat.beq (A9 pl p))=true))))
theorem N7{P:Program}{ops:Array Oper}{pl:List (Nat×List Nat)}(h:J4 P ops pl=true):IC P ops pl:=by
 simp only[J4,xa]at h;obtain⟨⟨⟨h0,h1⟩,I⟩,M⟩:=h;have get:∀p,p<pl.length->pl[p]?=some (A9 pl p,IU pl p):=λp D=>by
  simp[A9,IU,qY,List.getElem?_eq_getElem D]
 have lt:∀p,p<pl.length->A9 pl p<ops.size:=λp D=>by
  have:=xg.1 h1 _ (q9 (get p D));rw[wb]at this;exact this
 have lt':∀p,p<pl.length->ops[A9 pl p]?=some (BJ ops pl p):=λp D=>by
  have:=lt p D;simp[BJ,qZ,this]
 have pk:∀p q,p<q->q<pl.length->Iw P ops (closure ops.toList []) (A9 pl p,IU pl p) (A9 pl q,IU pl q)=true:=λp q J N=>
  Jv M J (get p (by omega)) (get q N)
 refine⟨lt',λi hi=>?_,λp D e he L=>?_,λp q J N=>?_,λp q J N=>?_,λp q J N=>?_⟩
 ·have:=xg.1 I i (by simpa using hi);obtain⟨x,G,hxi⟩:=xX.1 this;obtain⟨p,D,rfl⟩:=List.mem_iff_getElem.1 G;refine⟨p,D,?_⟩;rw[<-xu hxi];simp[A9,qY,List.getElem?_eq_getElem D]
 ·have:=J5 h0 (k:=A9 pl p) (by simpa using lt' p D) he L;omega
 ·have:=pk p q J N;simp only[Iw,xa,bne_iff_ne]at this;exact this.1.1
 ·have:=pk p q J N;simp only[Iw,xa,xj]at this;exact this.1.2
 ·have:=pk p q J N;simp only[Iw,xa,xQ]at this;rcases this.2 with Y|Y
  ·exact .inl Y
  ·right;rw[lt' p (by omega),lt' q N]at Y;simp only[xa,xQ,beq_iff_eq,bne_iff_ne]at Y;refine⟨Y.1,?_⟩;rcases Y.2 with(a|a)|⟨a,b⟩
   ·exact .inl a
   ·exact .inr (.inl a)
   ·exact .inr (.inr ⟨a,b⟩)
def E3(f:Nat->Bool):Nat->Nat->Nat
 |s,0=>s
 |s,k+1=>if f s=true then s else E3 f (s+1) k
theorem CS(f:Nat->Bool):∀(k s:Nat),s<=E3 f s k/\E3 f s k<=s+k/\(∀p,s<=p->p<E3 f s k->f p=false)/\(E3 f s k<s+k->f (E3 f s k)=true)
 |0,s=>⟨xb _,xb _,λp h1 I=>by simp[E3]at I;omega,λh=>by simp[E3]at h⟩
 | k+1,s=>by
  unfold E3;by_cases hf:f s=true
  ·rw[xf hf];exact⟨xb _,by omega,λp h1 I=>by omega,λ_=>hf⟩
  ·rw[xd hf];obtain⟨a,b,c,d⟩:=CS f k (s+1);refine⟨by omega,by omega,λp h1 I=>?_,λh=>d (by omega)⟩;by_cases e:p=s
   ·subst e;simpa using hf
   ·exact c p (by omega) I
theorem IK(f:Nat->Bool){n r:Nat}(K:r<=n)(h1:∀p,p<r->f p=false)(I:r<n->f r=true):E3 f 0 n=r:=by
 obtain⟨a,b,c,d⟩:=CS f n 0;rcases Nat.lt_trichotomy (E3 f 0 n) r with h|h|h
 ·have:=h1 _ h;rw[d (by omega)]at this;cases this
 ·exact h
 ·have:=c r (by omega) h;rw[I (by omega)]at this;cases this
section
variable {C:Gf} {S:Self} {g:Gd} {ops:Array Oper} {pl:List (Nat×List Nat)} {F:Nat->Fr} {H:Nat->AE} {T:Nat->List (Nat×Nat)}
theorem H5.at_(B:H5 C S g ops pl F H T)(D:IC C.P ops pl){p:Nat}(h:p<pl.length):
  (Bp ops (F p) (BJ ops pl p)=some false/\F (p+1)=put (F p) (BJ ops pl p).dst (.tuple [])/\H (p+1)=H p/\T (p+1)=T p)\/
  (Bp ops (F p) (BJ ops pl p)=some true/\∃v,BI C S ⟨g.floor,FQ (T p) (IU pl p)++g.Bs⟩ (H p) (F p) (BJ ops pl p).op=some (v,H (p+1))/\F (p+1)=put (F p) (BJ ops pl p).dst v/\
   T (p+1)=EE C.P (H p) (F p) (A9 pl p) (BJ ops pl p).op (T p)):=by
 have G:pl[p]?=some (A9 pl p,IU pl p):=by simp[A9,IU,qY,List.getElem?_eq_getElem h]
 obtain⟨o,X,R⟩:=B.step p _ G;rw[D.lt p h]at X;injection X with X;subst X;exact R
theorem H5.len(B:H5 C S g ops pl F H T)(D:IC C.P ops pl):∀p,p<=pl.length->(F p).length=(F 0).length
 |0,_=>rfl
 |p+1,h=>by
  rw[<-H5.len B D p (by omega)];rcases B.at_ D (p:=p) (by omega)with⟨_,W,_⟩|⟨_,v,_,W,_⟩<;>rw[W]<;>simp
theorem LZ(fr:Fr){d:Option Tmp}{t:Nat}(v:AD)(h:d≠some t):nth (put fr d v) t=nth fr t:=by
 cases d with
 |none=>rfl
 |some d=>
  simp only[put];rw[GR,xd (by rintro⟨rfl,_⟩;exact h rfl)]
theorem H5.slot(B:H5 C S g ops pl F H T)(D:IC C.P ops pl){t p:Nat}:∀q,p<=q->q<=pl.length->(∀x,p<=x->x<q->(BJ ops pl x).dst≠some t)->nth (F q) t=nth (F p) t
 |0,h1,_,_=>by rw[show p=0 by omega]
 | q+1,h1,I,M=>by
  by_cases e:p=q+1
  ·rw[e]
  ·rw[<-H5.slot B D q (by omega) (by omega) (λx a b=>M x a (by omega))];have hne:=M q (by omega) (by omega);rcases B.at_ D (p:=q) (by omega)with⟨_,W,_⟩|⟨_,v,_,W,_⟩<;>rw[W,LZ _ _ hne]
theorem H5.keeps(B:H5 C S g ops pl F H T)(D:IC C.P ops pl)(Q:GH C.P C.C4 S.call){p:Nat}(h:p<pl.length):BT ⟨g.floor,FQ (T p) (IU pl p)++g.Bs⟩ (H p) (H (p+1)):=by
 rcases B.at_ D h with⟨_,_,V,_⟩|⟨_,v,E,_,_⟩
 ·rw[V];exact BT.refl _ _
 ·exact HG Q E
theorem H5.size(B:H5 C S g ops pl F H T)(D:IC C.P ops pl)(Q:GH C.P C.C4 S.call){p:Nat}:∀q,p<=q->q<=pl.length->(H p).size<=(H q).size
 |0,h1,_=>by rw[show p=0 by omega];exact xb _
 |q+1,h1,I=>by
  by_cases e:p=q+1
  ·rw[e];exact xb _
  ·exact xn (H5.size B D Q q (by omega) (by omega)) (B.keeps D Q (p:=q) (by omega)).1
theorem Np{g:Gd}{t:List (Nat×Nat)}{U:List Nat}{i id:Nat}(h1:(i,id)∈t)(I:U.any (Nat.beq i)=true):(⟨g.floor,FQ t U++g.Bs⟩:Gd).may id=false:=by
 have:(FQ t U++g.Bs).any (Nat.beq id)=true:=by
  refine xX.2 ⟨id,List.mem_append.2 (.inl (List.mem_filterMap.2 ⟨(i,id),h1,?_⟩)),wg id⟩;simp[I]
 simp[Gd.may,this]
theorem M4{g:Gd}{l:List Nat}(id:Nat)(h:g.may id=false):(⟨g.floor,l++g.Bs⟩:Gd).may id=false:=by
 simp only[Gd.may,xA,xT]at h⊢;rcases h with h|h
 ·exact .inl h
 ·right;simp[List.any_append,h]
theorem H5.told(B:H5 C S g ops pl F H T)(D:IC C.P ops pl){p:Nat}{x:Nat×Nat}(G:x∈T p):∀q,p<=q->q<=pl.length->x∈T q
 |0,h1,_=>by rw[show 0=p by omega];exact G
 | q +1,h1,I=>by
  by_cases e:p=q+1
  ·rw[<-e];exact G
  ·have ih:=H5.told B D G q (by omega) (by omega);rcases B.at_ D (p:=q) (by omega)with⟨_,_,_,hT⟩|⟨_,v,_,_,hT⟩
   ·rw[hT];exact ih
   ·rw[hT];unfold EE;split
    ·split
     ·exact xv _ ih
     ·exact ih
    ·exact xv _ ih
    ·exact ih
theorem H5.same(B:H5 C S g ops pl F H T)(D:IC C.P ops pl)(Q:GH C.P C.C4 S.call){p i id:Nat}(G:(i,id)∈T p)(hid:id<(H p).size):
  ∀q,p<=q->q<=pl.length->(∀x,p<=x->x<q->As C.P (BJ ops pl x).op=3->(IU pl x).any (Nat.beq i)=true)->(H q).get id=(H p).get id
 |0,h1,_,_=>by rw[show p=0 by omega]
 | q + 1,h1,I,M=>by
  by_cases e:p=q+1
  ·rw[e]
  ·rw [<-H5.same B D Q G hid q (by omega) (by omega) (λx a b=>M x a (by omega))];have O:id<(H q).size:=xe hid (B.size D Q q (by omega) (by omega));by_cases hc:As C.P (BJ ops pl q).op=3
   ·exact(B.keeps D Q (p:=q) (by omega)).2 id O (Np (B.told D G q (by omega) (by omega)) (M q (by omega) (by omega) hc))
   ·rcases B.at_ D (p:=q) (by omega)with⟨_,_,V,_⟩|⟨_,v,E,_,_⟩
    ·rw[V]
    ·rw[Er hc]at E;unfold Gn at E;split at E
     ·simp only[qX,qW]at E;obtain⟨_,_,_,e⟩:=E;rw[<-e]
     ·split at E
      ·simp only[qX,qW]at E;obtain⟨_,_,_,e⟩:=E;rw[<-e]
      ·split at E
       ·simp only[qX,qW]at E;obtain⟨_,_,_,e⟩:=E;rw[<-e]
       ·cases E
     ·simp only[qX,qW]at E;obtain⟨_,_,_,e⟩:=E;rw[<-e];exact AE.Cc _ _ O
     ·rename_i h0 h1 I;exfalso;have:∀op,As C.P op=0\/As C.P op=1\/As C.P op=2\/As C.P op=3:=by
       intro op;unfold As
       repeat' split
       all_goals simp
      rcases this (BJ ops pl q).op with h|h|h|h
      ·exact h0 h
      ·exact h1 h
      ·exact I h
      ·exact hc h
theorem H5.Ld(B:H5 C S g ops pl F H T)(D:IC C.P ops pl){w0:World}{m:BU}{w:World}{p:Nat}(r:Rel C.P w0 m (H p) w):
  ∀q,p<=q->q<=pl.length->(∀x,p<=x->x<q->As C.P (BJ ops pl x).op≠3)->Rel C.P w0 m (H q) w
 |0,h1,_,_=>by rw[show 0=p by omega];exact r
 | q +1,h1,I,M=>by
  by_cases e:p=q+1
  ·rw[<-e];exact r
  ·have ih:=H5.Ld B D r q (by omega) (by omega) (λx a b=>M x a (by omega));have hc:=M q (by omega) (by omega);rcases B.at_ D (p:=q) (by omega)with⟨_,_,V,_⟩|⟨_,v,E,_,_⟩
   ·rw[V];exact ih
   ·rw[Er hc]at E;unfold Gn at E;split at E
    ·simp only[qX,qW]at E;obtain⟨_,_,_,e⟩:=E;rw[<-e];exact ih
    ·split at E
     ·simp only[qX,qW]at E;obtain⟨_,_,_,e⟩:=E;rw[<-e];exact ih
     ·split at E
      ·simp only[qX,qW]at E;obtain⟨_,_,_,e⟩:=E;rw[<-e];exact ih
      ·cases E
    ·simp only[qX,qW]at E;obtain⟨_,_,_,e⟩:=E;rw[<-e];exact ih.ghost _
    ·rename_i h0 h1 I;exfalso;have:∀op,As C.P op=0\/As C.P op=1\/As C.P op=2\/As C.P op=3:=by
      intro op;unfold As
      repeat' split
      all_goals simp
     rcases this (BJ ops pl q).op with h|h|h|h
     ·exact h0 h
     ·exact h1 h
     ·exact I h
     ·exact hc h
end
end Go.Abs
