/-
 A part.
-/
import Derived.Test.YtfgmnhjedmkpeaaAvStep
set_option linter.unusedSimpArgs false
namespace Go.Av
open Go.RowKit
def Lm(acc:List Nat)(o:Oper):Nat:=o.after.toList.foldl (λs e=>if Region.binds .any e then s ||| 2^e.on ||| acc.getD e.on 0 else s) 0
def closure:List Oper->List Nat->List Nat
 |[],acc=>acc
 |o::os,acc=>closure os (acc++[Lm acc o])
theorem Jz(acc:List Nat)(j:Nat):∀(l:List Edge) (s:Nat),(l.foldl (λs e=>if Region.binds .any e then s ||| 2^e.on ||| acc.getD e.on 0 else s) s).testBit j=true↔
  s.testBit j=true\/∃e∈l,Region.binds .any e=true/\(j=e.on\/(acc.getD e.on 0).testBit j=true)
 |[],s=>by simp
 | e::l,s=>by
  rw[yr,Jz acc j l];by_cases Q:Region.binds .any e=true
  ·simp only[Q,if_true,Nat.testBit_or,zG,Nat.testBit_two_pow,zx,ye,exists_eq_or_imp,qu];constructor
   ·rintro((((h|h)|h))|h)
    ·exact .inl h
    ·exact .inr (.inl (.inl h.symm))
    ·exact .inr (.inl (.inr h))
    ·exact .inr (.inr h)
   ·rintro(h|(h|h)|h)
    ·exact .inl (.inl (.inl h))
    ·exact .inl (.inl (.inr h.symm))
    ·exact .inl (.inr h)
    ·exact .inr h
  ·simp only[Q,zB,if_false,ye,exists_eq_or_imp,false_and,false_or]
theorem Fs:∀(l:List Oper) (acc:List Nat) (i:Nat),i<acc.length->(closure l acc)[i]?=acc[i]?
 |[],acc,i,_=>rfl
 |o::l,acc,i,h=>by rw[closure,Fs l _ i (by simp;omega),List.getElem?_append_left h]
theorem GY:∀(l:List Oper) (acc:List Nat) (k:Nat) (o:Oper) (j:Nat),l[k]?=some o->
  ((((closure l acc).getD (acc.length+k) 0).testBit j=true↔∃e∈o.after.toList,Region.binds .any e=true/\(j=e.on\/(e.on<acc.length+k/\((closure l acc).getD e.on 0).testBit j=true))))
 |[],acc,k,o,j,h=>by simp at h
 | o'::l,acc,0,o,j,h=>by
  simp only[List.getElem?_cons_zero,zd]at h;subst h;have e1:(closure (o'::l) acc).getD (acc.length+0) 0=Lm acc o':=by
   rw[zl,closure,Fs l _ _ (by simp),List.getElem?_append_right (by omega)];simp
  rw[e1,Lm,Jz];simp only[Nat.zero_testBit,zB,false_or];constructor
  ·rintro⟨e,he,Q,h|h⟩
   ·exact⟨e,he,Q,.inl h⟩
   ·refine⟨e,he,Q,.inr ?_⟩;by_cases hlt:e.on<acc.length
    ·refine⟨by omega,?_⟩;rw[zl,closure,Fs l _ _ (by simp;omega),List.getElem?_append_left hlt];simpa[zl]using h
    ·rw[zl,List.getElem?_eq_none (by omega)]at h;simp at h
  ·rintro⟨e,he,Q,h|⟨hlt,h⟩⟩
   ·exact⟨e,he,Q,.inl h⟩
   ·refine⟨e,he,Q,.inr ?_⟩;rw[zl,closure,Fs l _ _ (by simp;omega),List.getElem?_append_left (by omega)]at h;simpa[zl]using h
 |o'::l,acc,k+1,o,j,h=>by
  have ih:=GY l (acc++[Lm acc o']) k o j (by simpa using h);simp only[zH,zP,yf]at ih;rw[show acc.length+(k+1)=acc.length+(0+1)+k by omega];exact ih
def dep(cl:List Nat)(i j:Nat):Bool:=(cl.getD j 0).testBit i
def NS(ops:Array Oper)(cl:List Nat)(i:Nat):Bool:=
 match ops[i]? with
 | some o=>(List.range ops.size).all λj=>
   match ops[j]? with
   |some p=>
    match p.dst with
    |some t=>(Nat.beq j i|| !(o.dst==some t))&&(!(o.looksAt ops).contains t||(!Nat.beq j i&&dep cl j i))
    |none=>true
   |none=>true
 |none=>false
def Iw(P:Program)(ops:Array Oper)(cl:List Nat)(x y:Nat×List Nat):Bool:=
  (x.1 !=y.1)&& !dep cl y.1 x.1&&
  (dep cl x.1 y.1||
    (match ops[x.1]?,ops[y.1]? with
     |some a,some b=>a.apart ops b&&(As P b.op==0||As P a.op==0||(As P a.op !=3&&(As P b.op !=3||y.2.any (Nat.beq x.1)||(As P a.op==1&&(y.2.any (Nat.beq (x.1+10000))&&NS ops cl x.1)))))
     |_,_=>false))
def Jg(P:Program)(ops:Array Oper)(cl:List Nat):List (Nat×List Nat)->Bool
 |[]=>true
 |x::l=>l.all (λy=>Iw P ops cl x y)&&Jg P ops cl l
def Jf:List Oper->Nat->Bool
 |[],_=>true
 |o::l,i=>o.after.toList.all (λe=> !Region.binds .any e||Nat.blt e.on i)&&Jf l (i+1)
theorem J5:∀{l:List Oper} {i:Nat},Jf l i=true->∀{k:Nat} {o:Oper} {e:Edge},l[k]?=some o->e∈o.after.toList->Region.binds .any e=true->e.on<i+k
 |[],_,_,k,o,e,hk,_,_=>by simp at hk
 | o'::l,i,h,k,o,e,hk,he,Q=>by
  simp only[Jf,zg]at h;cases k with
  |zero=>
   simp only[List.getElem?_cons_zero,zd]at hk;subst hk;have:=zC.1 h.1 e he;rw[Q]at this;simp only[zI,yA,yI]at this;omega
  |succ k=>
   have:=J5 h.2 (k:=k) (by simpa using hk) he Q;omega
def J4(P:Program)(ops:Array Oper)(pl:List (Nat×List Nat)):Bool:=
 let cl:=closure ops.toList []
 Jf ops.toList 0&&pl.all (λx=>Nat.blt x.1 ops.size)&&(List.range ops.size).all (λi=>pl.any λx=>Nat.beq x.1 i)&&Jg P ops cl pl
theorem Jv{P:Program}{ops:Array Oper}{cl:List Nat}:∀{pl:List (Nat×List Nat)},Jg P ops cl pl=true->∀{p q:Nat} {x y:Nat×List Nat},p<q->pl[p]?=some x->pl[q]?=some y->Iw P ops cl x y=true
 |[],_,p,q,x,y,_,G,_=>by simp at G
 | z::l,h,p,q,x,y,J,G,hy=>by
  simp only[Jg,zg]at h;cases q with
  |zero=>omega
  | succ q=>
   have hy':l[q]?=some y:=by simpa using hy
   cases p with
   |zero=>
    simp only[List.getElem?_cons_zero,zd]at G;subst G;exact zC.1 h.1 y (zQ hy')
   |succ p=>exact Jv h.2 (p:=p) (q:=q) (by omega) (by simpa using G) hy'
section
variable {C:Gf} {S:Self}
structure H5(C:Gf)(S:Self)(g:Gd)(ops:Array Oper)(pl:List (Nat×List Nat))(F:Nat->Fr)(H:Nat->AE)(T:Nat->List (Nat×Nat)):Prop where
  step:∀p x,pl[p]?=some x->∃o,ops[x.1]?=some o/\
    ((Bp ops (F p) o=some false/\F (p+1)=put (F p) o.dst (.tuple [])/\H (p+1)=H p/\T (p+1)=T p)\/
     (Bp ops (F p) o=some true/\∃v,BI C S ⟨g.floor,FQ (T p) x.2++g.Bs⟩ (H p) (F p) o.op=some (v,H (p+1))/\F (p+1)=put (F p) o.dst v/\T (p+1)=EE C.P (H p) (F p) x.1 o.op (T p)/\Ow C ops x.2 (F (p+1)) (H (p+1))=true))
theorem G9{g:Gd}{ops:Array Oper}:∀(pl:List (Nat×List Nat)) (t:List (Nat×Nat)) (fr:Fr) (h:AE) (fr':Fr) (h':AE),Bl C S g ops pl t fr h=some (fr',h')->
    ∃F H T,H5 C S g ops pl F H T/\F 0=fr/\H 0=h/\T 0=t/\F pl.length=fr'/\H pl.length=h'
  | [],t,fr,h,fr',h',M=>by
    simp only[Bl,zd,ze]at M;obtain⟨rfl,rfl⟩:=M;exact⟨λ_=>fr,λ_=>h,λ_=>t,⟨λp x G=>by simp at G⟩,rfl,rfl,rfl,rfl,rfl⟩
  | (i, U) ::pl,t,fr,h,fr',h',M=>by
    unfold Bl at M;split at M
    · cases M
    · rename_i o ho
      have glue:∀(fr1:Fr) (h1:AE) (t1:List (Nat×Nat)),Bl C S g ops pl t1 fr1 h1=some (fr',h')->
          ((Bp ops fr o=some false/\fr1=put fr o.dst (.tuple [])/\h1=h/\t1=t)\/
           (Bp ops fr o=some true/\∃v,BI C S ⟨g.floor,FQ t U++g.Bs⟩ h fr o.op=some (v,h1)/\fr1=put fr o.dst v/\t1=EE C.P h fr i o.op t/\Ow C ops U fr1 h1=true))->
          ∃F H T,H5 C S g ops ((i,U)::pl) F H T/\F 0=fr/\H 0=h/\T 0=t/\F ((i,U)::pl).length=fr'/\H ((i,U)::pl).length=h':=by
        intro fr1 h1 t1 hrest hst;obtain⟨F,H,T,B,rfl,rfl,rfl,Z,Y⟩:=G9 pl t1 fr1 h1 fr' h' hrest;refine⟨fun|0=>fr|p+1=>F p,fun|0=>h|p+1=>H p,fun|0=>t|p+1=>T p,⟨λp x G=>?_⟩,rfl,rfl,rfl,by simpa using Z,by simpa using Y⟩;cases p with
        | zero=>
          simp only[List.getElem?_cons_zero,zd]at G;subst G;exact⟨o,ho,hst⟩
        |succ p=>exact B.step p x (by simpa using G)
      split at M
      · rename_i hw
        split at M
        · rename_i v h1 E
          cases O:Ow C ops U (put fr o.dst v) h1 with
          |false=>rw[O]at M;cases M
          | true=>
            rw[O]at M;exact glue _ _ _ M (.inr ⟨hw,v,E,rfl,rfl,O⟩)
        · cases M
      · rename_i hw
        exact glue _ _ _ M (.inl ⟨hw,rfl,rfl,rfl⟩)
      · cases M
end
def A9(pl:List (Nat×List Nat))(p:Nat):Nat:=(pl.getD p (0,[])).1
def IU(pl:List (Nat×List Nat))(p:Nat):List Nat:=(pl.getD p (0,[])).2
def BJ(ops:Array Oper)(pl:List (Nat×List Nat))(p:Nat):Oper:=ops.getD (A9 pl p) default
structure IC(P:Program)(ops:Array Oper)(pl:List (Nat×List Nat)):Prop where
 lt:∀p,p<pl.length->ops[A9 pl p]?=some (BJ ops pl p)
 Wl:∀i,i<ops.size->∃p,p<pl.length/\A9 pl p=i
 WS:∀p,p<pl.length->∀e∈(BJ ops pl p).after.toList,Region.binds .any e=true->e.on<A9 pl p
 ne:∀p q,p<q->q<pl.length->A9 pl p≠A9 pl q
 SO:∀p q,p<q->q<pl.length->dep (closure ops.toList []) (A9 pl q) (A9 pl p)=false
 pair:∀p q,p<q->q<pl.length->dep (closure ops.toList []) (A9 pl p) (A9 pl q)=true\/
  ((BJ ops pl p).apart ops (BJ ops pl q)=true/\(As P (BJ ops pl q).op=0\/As P (BJ ops pl p).op=0\/
   (As P (BJ ops pl p).op≠3/\(As P (BJ ops pl q).op≠3\/(IU pl q).any (Nat.beq (A9 pl p))=true\/
    (As P (BJ ops pl p).op=1/\(IU pl q).any (Nat.beq (A9 pl p+10000))=true/\NS ops (closure ops.toList []) (A9 pl p)=true)))))
theorem N7{P:Program}{ops:Array Oper}{pl:List (Nat×List Nat)}(h:J4 P ops pl=true):IC P ops pl:=by
 simp only[J4,zg]at h;obtain⟨⟨⟨h0,h1⟩,I⟩,R⟩:=h;have get:∀p,p<pl.length->pl[p]?=some (A9 pl p,IU pl p):=λp D=>by
  simp[A9,IU,zl,List.getElem?_eq_getElem D]
 have lt:∀p,p<pl.length->A9 pl p<ops.size:=λp D=>by
  have:=zC.1 h1 _ (zQ (get p D));rw[yI]at this;exact this
 have lt':∀p,p<pl.length->ops[A9 pl p]?=some (BJ ops pl p):=λp D=>by
  have:=lt p D;simp[BJ,zm,this]
 have pk:∀p q,p<q->q<pl.length->Iw P ops (closure ops.toList []) (A9 pl p,IU pl p) (A9 pl q,IU pl q)=true:=λp q J hq=>
  Jv R J (get p (by omega)) (get q hq)
 refine⟨lt',λi hi=>?_,λp D e he Q=>?_,λp q J hq=>?_,λp q J hq=>?_,λp q J hq=>?_⟩
 ·have:=zC.1 I i (by simpa using hi);obtain⟨x,G,hxi⟩:=yZ.1 this;obtain⟨p,D,rfl⟩:=List.mem_iff_getElem.1 G;refine⟨p,D,?_⟩;rw[<-zE hxi];simp[A9,zl,List.getElem?_eq_getElem D]
 ·have:=J5 h0 (k:=A9 pl p) (by simpa using lt' p D) he Q;omega
 ·have:=pk p q J hq;simp only[Iw,zg,yV]at this;exact this.1.1
 ·have:=pk p q J hq;simp only[Iw,zg,zu]at this;exact this.1.2
 ·have:=pk p q J hq;simp only[Iw,zg,zG]at this;rcases this.2 with N|N
  ·exact .inl N
  ·right;rw[lt' p (by omega),lt' q hq]at N;simp only[zg,zG,zT,yV]at N;refine⟨N.1,?_⟩;rcases N.2 with(a|a)|⟨a,b⟩
   ·exact .inl a
   ·exact .inr (.inl a)
   ·refine .inr (.inr ⟨a,?_⟩);rcases b with(b|b)|⟨b,c,d⟩
    ·exact .inl b
    ·exact .inr (.inl b)
    ·exact .inr (.inr ⟨b,c,d⟩)
def E3(f:Nat->Bool):Nat->Nat->Nat
 |s,0=>s
 |s,k+1=>if f s=true then s else E3 f (s+1) k
theorem CS(f:Nat->Bool):∀(k s:Nat),s<=E3 f s k/\E3 f s k<=s+k/\(∀p,s<=p->p<E3 f s k->f p=false)/\(E3 f s k<s+k->f (E3 f s k)=true)
 |0,s=>⟨zq _,zq _,λp h1 I=>by simp[E3]at I;omega,λh=>by simp[E3]at h⟩
 | k+1,s=>by
  unfold E3;by_cases hf:f s=true
  ·rw[zj hf];exact⟨zq _,by omega,λp h1 I=>by omega,λ_=>hf⟩
  ·rw[zk hf];obtain⟨a,b,c,d⟩:=CS f k (s+1);refine⟨by omega,by omega,λp h1 I=>?_,λh=>d (by omega)⟩;by_cases e:p=s
   ·subst e;simpa using hf
   ·exact c p (by omega) I
theorem IK(f:Nat->Bool){n r:Nat}(M:r<=n)(h1:∀p,p<r->f p=false)(I:r<n->f r=true):E3 f 0 n=r:=by
 obtain⟨a,b,c,d⟩:=CS f n 0;rcases qv (E3 f 0 n) r with h|h|h
 ·have:=h1 _ h;rw[d (by omega)]at this;cases this
 ·exact h
 ·have:=c r (by omega) h;rw[I (by omega)]at this;cases this
section
variable {C:Gf} {S:Self} {g:Gd} {ops:Array Oper} {pl:List (Nat×List Nat)} {F:Nat->Fr} {H:Nat->AE} {T:Nat->List (Nat×Nat)}
theorem H5.at_(B:H5 C S g ops pl F H T)(D:IC C.P ops pl){p:Nat}(h:p<pl.length):
  (Bp ops (F p) (BJ ops pl p)=some false/\F (p+1)=put (F p) (BJ ops pl p).dst (.tuple [])/\H (p+1)=H p/\T (p+1)=T p)\/
  (Bp ops (F p) (BJ ops pl p)=some true/\∃v,BI C S ⟨g.floor,FQ (T p) (IU pl p)++g.Bs⟩ (H p) (F p) (BJ ops pl p).op=some (v,H (p+1))/\F (p+1)=put (F p) (BJ ops pl p).dst v/\
   T (p+1)=EE C.P (H p) (F p) (A9 pl p) (BJ ops pl p).op (T p)/\Ow C ops (IU pl p) (F (p+1)) (H (p+1))=true):=by
 have G:pl[p]?=some (A9 pl p,IU pl p):=by simp[A9,IU,zl,List.getElem?_eq_getElem h]
 obtain⟨o,ho,hst⟩:=B.step p _ G;rw[D.lt p h]at ho;injection ho with ho;subst ho;exact hst
theorem H5.len(B:H5 C S g ops pl F H T)(D:IC C.P ops pl):∀p,p<=pl.length->(F p).length=(F 0).length
 |0,_=>rfl
 |p+1,h=>by
  rw[<-H5.len B D p (by omega)];rcases B.at_ D (p:=p) (by omega)with⟨_,Z,_⟩|⟨_,v,_,Z,_⟩<;>rw[Z]<;>simp
theorem LZ(fr:Fr){d:Option Tmp}{t:Nat}(v:AD)(h:d≠some t):nth (put fr d v) t=nth fr t:=by
 cases d with
 |none=>rfl
 |some d=>
  simp only[put];rw[GR,zk (by rintro⟨rfl,_⟩;exact h rfl)]
theorem H5.slot(B:H5 C S g ops pl F H T)(D:IC C.P ops pl){t p:Nat}:∀q,p<=q->q<=pl.length->(∀x,p<=x->x<q->(BJ ops pl x).dst≠some t)->nth (F q) t=nth (F p) t
 |0,h1,_,_=>by rw[show p=0 by omega]
 | q+1,h1,I,R=>by
  by_cases e:p=q+1
  ·rw[e]
  ·rw[<-H5.slot B D q (by omega) (by omega) (λx a b=>R x a (by omega))];have hne:=R q (by omega) (by omega);rcases B.at_ D (p:=q) (by omega)with⟨_,Z,_⟩|⟨_,v,_,Z,_⟩<;>rw[Z,LZ _ _ hne]
theorem H5.keeps(B:H5 C S g ops pl F H T)(D:IC C.P ops pl)(X:KS C.P C.C4 S){p:Nat}(h:p<pl.length):BT ⟨g.floor,FQ (T p) (IU pl p)++g.Bs⟩ (H p) (H (p+1)):=by
 rcases B.at_ D h with⟨_,_,Y,_⟩|⟨_,v,E,_,_⟩
 ·rw[Y];exact BT.refl _ _
 ·exact HG X E
theorem H5.size(B:H5 C S g ops pl F H T)(D:IC C.P ops pl)(X:KS C.P C.C4 S){p:Nat}:∀q,p<=q->q<=pl.length->(H p).size<=(H q).size
 |0,h1,_=>by rw[show p=0 by omega];exact zq _
 |q+1,h1,I=>by
  by_cases e:p=q+1
  ·rw[e];exact zq _
  ·exact yu (H5.size B D X q (by omega) (by omega)) (B.keeps D X (p:=q) (by omega)).1
theorem Np{g:Gd}{t:List (Nat×Nat)}{U:List Nat}{i id:Nat}(h1:(i,id)∈t)(I:U.any (Nat.beq i)=true):(⟨g.floor,FQ t U++g.Bs⟩:Gd).may id=false:=by
 have:(FQ t U++g.Bs).any (Nat.beq id)=true:=by
  refine yZ.2 ⟨id,zo.2 (.inl (qo.2 ⟨(i,id),h1,?_⟩)),yS id⟩;simp[I]
 simp[Gd.may,this]
theorem M4{g:Gd}{l:List Nat}(id:Nat)(h:g.may id=false):(⟨g.floor,l++g.Bs⟩:Gd).may id=false:=by
 simp only[Gd.may,yB,yy]at h⊢;rcases h with h|h
 ·exact .inl h
 ·right;simp[qD,h]
theorem H5.told(B:H5 C S g ops pl F H T)(D:IC C.P ops pl){p:Nat}{x:Nat×Nat}(G:x∈T p):∀q,p<=q->q<=pl.length->x∈T q
 |0,h1,_=>by rw[show 0=p by omega];exact G
 | q +1,h1,I=>by
  by_cases e:p=q+1
  ·rw[<-e];exact G
  ·have ih:=H5.told B D G q (by omega) (by omega);rcases B.at_ D (p:=q) (by omega)with⟨_,_,_,hT⟩|⟨_,v,_,_,hT,_⟩
   ·rw[hT];exact ih
   ·rw[hT];unfold EE;split
    ·split
     ·exact yc _ ih
     ·exact ih
    ·exact yc _ ih
    ·exact ih
theorem H5.same(B:H5 C S g ops pl F H T)(D:IC C.P ops pl)(X:KS C.P C.C4 S){p i id:Nat}(G:(i,id)∈T p)(hid:id<(H p).size):
  ∀q,p<=q->q<=pl.length->(∀x,p<=x->x<q->As C.P (BJ ops pl x).op=3->(IU pl x).any (Nat.beq i)=true)->(H q).get id=(H p).get id
 |0,h1,_,_=>by rw[show p=0 by omega]
 | q + 1,h1,I,R=>by
  by_cases e:p=q+1
  ·rw[e]
  ·rw [<-H5.same B D X G hid q (by omega) (by omega) (λx a b=>R x a (by omega))];have K:id<(H q).size:=zL hid (B.size D X q (by omega) (by omega));by_cases hc:As C.P (BJ ops pl q).op=3
   ·exact(B.keeps D X (p:=q) (by omega)).2 id K (Np (B.told D G q (by omega) (by omega)) (R q (by omega) (by omega) hc))
   ·rcases B.at_ D (p:=q) (by omega)with⟨_,_,Y,_⟩|⟨_,v,E,_,_⟩
    ·rw[Y]
    ·rw[Er hc]at E;unfold Gn at E;split at E
     ·simp only[zh,ze]at E;obtain⟨_,_,_,e⟩:=E;rw[<-e]
     ·split at E
      ·simp only[zh,ze]at E;obtain⟨_,_,_,e⟩:=E;rw[<-e]
      ·split at E
       ·simp only[zh,ze]at E;obtain⟨_,_,_,e⟩:=E;rw[<-e]
       ·cases E
     ·simp only[zh,ze]at E;obtain⟨_,_,_,e⟩:=E;rw[<-e];exact AE.Cc _ _ K
     ·rename_i h0 h1 I;exfalso;have:∀op,As C.P op=0\/As C.P op=1\/As C.P op=2\/As C.P op=3:=by
       intro op;unfold As
       repeat' split
       all_goals simp
      rcases this (BJ ops pl q).op with h|h|h|h
      ·exact h0 h
      ·exact h1 h
      ·exact I h
      ·exact hc h
theorem T7{v x:AD}(h:T2 v x=true):v=x:=by
 unfold T2 at h;split at h
 ·simp only[zg]at h;rw[zE h.1,zE h.2]
 ·simp only[zg,zx]at h;rw[h.1,h.2]
 ·simp only[zT]at h;rw[h]
 ·simp only[zx]at h;rw[h]
 ·rfl
 ·cases h
theorem H5.reads(B:H5 C S g ops pl F H T)(D:IC C.P ops pl)(X:KS C.P C.C4 S){p id:Nat}{ob:Br}{x:AD}(hpn:p<pl.length)(hw:Bp ops (F p) (BJ ops pl p)=some true)
  (ht:Cm (F p) (BJ ops pl p).op=some id) (hg:(H (p+1)).get id=some ob) (G:Iq C.P C.C4 (F p) (some ob) (BJ ops pl p).op=some x) (Z:F (p+1)=put (F p) (BJ ops pl p).dst x) (hmem:(A9 pl p,id)∈T (p+1)):
  ∀q,p+1<=q->q<=pl.length->(∀y,p<y->y<q->As C.P (BJ ops pl y).op=3->(IU pl y).any (Nat.beq (A9 pl p))=true\/((IU pl y).any (Nat.beq (A9 pl p+10000))=true/\NS ops (closure ops.toList []) (A9 pl p)=true))->
   ∃ob',(H q).get id=some ob'/\Iq C.P C.C4 (F p) (some ob') (BJ ops pl p).op=some x
 |0,h1,_,_=>by omega
 | q + 1, h1,I,R=>by
  by_cases e:p=q
  ·subst e;exact⟨ob,hg,G⟩
  ·obtain ⟨ob',g1,g2⟩:=H5.reads B D X hpn hw ht hg G Z hmem q (by omega) (by omega) (λy a b=>R y a (by omega));have K:=(H q).BZ g1;have old:(H (q+1)).get id=(H q).get id->∃ob',(H (q+1)).get id=some ob'/\Iq C.P C.C4 (F p) (some ob') (BJ ops pl p).op=some x:=λe=>⟨ob',by rw[e];exact g1,g2⟩;by_cases hc:As C.P (BJ ops pl q).op=3
   ·rcases R q (by omega) (by omega) hc with hu|⟨hu,V⟩
    ·exact old ((B.keeps D X (p:=q) (by omega)).2 id K (Np (B.told D hmem q (by omega) (by omega)) hu))
    ·rcases B.at_ D (p:=q) (by omega)with⟨_,_,Y,_⟩|⟨_,v,E,hFq,_,O⟩
     ·rw[Y];exact⟨ob',g1,g2⟩
     ·unfold Ow at O;obtain⟨u,hum,hue⟩:=yZ.1 hu;have hue:=zE hue;have L:=zC.1 O u hum;have hbl:Nat.blt u 10000=false:=by rw[<-Bool.not_eq_true,yI];omega
      rw[hbl,yA,show u - 10000=A9 pl p by omega]at L;unfold Vw at L;unfold NS at V;rw[D.lt p hpn]at L V;simp only at L V;have noW:∀y,p<y->y<=q->∀t,(BJ ops pl y).dst=some t->(BJ ops pl p).dst≠some t/\t∉(BJ ops pl p).looksAt ops:=by
       intro y a b t N;have hyn:y<pl.length:=by omega
       have hly:=D.lt y hyn;have h6:=zC.1 V (A9 pl y) (by simpa using(Array.getElem?_eq_some_iff.1 hly).1);rw[hly]at h6;simp only[N,zg,zG,zu]at h6;refine⟨λe=>?_,λhm=>?_⟩
       ·rcases h6.1 with h|h
        ·exact D.ne p y a hyn (zE h).symm
        ·rw[e]at h;simp at h
       ·rcases h6.2 with h|h
        ·have:((BJ ops pl p).looksAt ops).contains t=true:=by simpa using hm
         rw[this]at h;cases h
        ·rw[D.SO p y a hyn]at h;exact absurd h.2 (by simp)
      have sameL:∀t∈(BJ ops pl p).looksAt ops,(BJ ops pl p).dst≠some t->nth (F (q+1)) t=nth (F p) t:=by
       intro t hm N;refine B.slot D (q+1) (by omega) (by omega) λy a b hy=>?_;by_cases e:y=p
       ·subst e;exact N hy
       ·exact(noW y (by omega) (by omega) t hy).2 hm
      have hself:∀t∈(BJ ops pl p).looksAt ops,(BJ ops pl p).dst≠some t:=by
       intro t hm N;have hlp:=D.lt p hpn;have h6:=zC.1 V (A9 pl p) (by simpa using(Array.getElem?_eq_some_iff.1 hlp).1);rw[hlp]at h6;simp only[N,zg,zG,zu]at h6;rcases h6.2 with h|h
       ·have:((BJ ops pl p).looksAt ops).contains t=true:=by simpa using hm
        rw[this]at h;cases h
       ·simp only[yS]at h;exact absurd h.1 (by simp)
      have Mm:∀t∈(BJ ops pl p).looksAt ops,nth (F (q+1)) t=nth (F p) t:=λt hm=>sameL t hm (hself t hm);rw[HY Mm,hw]at L;simp only at L;have hso:=Me Mm;rw[H9 hso,ht]at L;split at L
      ·rename_i d id' N W;injection W with W;subst W;simp only[zg]at L;obtain⟨hlt,L⟩:=L;split at L
       ·rename_i ob2 hg2;split at L
        ·rename_i v2 hv2;refine⟨ob2,hg2,?_⟩;rw[JP hso]at hv2;have e1:=T7 L;have e2:nth (F (q+1)) d=nth (F (p+1)) d:=B.slot D (q+1) (by omega) (by omega) λy a b hy=>(noW y (by omega) (by omega) d hy).1 N;have e3:nth (F (p+1)) d=x:=by
          rw[Z,N];show nth ((F p).set d x) d=x;have hl1:=B.len D (q+1) (by omega);have hl2:=B.len D p (by omega);rw[yI]at hlt;rw[GR,zj ⟨rfl,by omega⟩]
         rw[hv2,e1,e2,e3]
        ·cases L
       ·cases L
      ·cases L
   ·refine old ?_;rcases B.at_ D (p:=q) (by omega)with⟨_,_,Y,_⟩|⟨_,v,E,_,_⟩
    ·rw[Y]
    ·rw[Er hc]at E;unfold Gn at E;split at E
     ·simp only[zh,ze]at E;obtain⟨_,_,_,e⟩:=E;rw[<-e]
     ·split at E
      ·simp only[zh,ze]at E;obtain⟨_,_,_,e⟩:=E;rw[<-e]
      ·split at E
       ·simp only[zh,ze]at E;obtain⟨_,_,_,e⟩:=E;rw[<-e]
       ·cases E
     ·simp only[zh,ze]at E;obtain⟨_,_,_,e⟩:=E;rw[<-e];exact AE.Cc _ _ K
     ·rename_i h0 h1 I;exfalso;have:∀op,As C.P op=0\/As C.P op=1\/As C.P op=2\/As C.P op=3:=by
       intro op;unfold As
       repeat' split
       all_goals simp
      rcases this (BJ ops pl q).op with h|h|h|h
      ·exact h0 h
      ·exact h1 h
      ·exact I h
      ·exact hc h
theorem H5.Ld(B:H5 C S g ops pl F H T)(D:IC C.P ops pl){w0:World}{m:BU}{w:World}{p:Nat}(r:Rel C.P w0 m (H p) w):
  ∀q,p<=q->q<=pl.length->(∀x,p<=x->x<q->As C.P (BJ ops pl x).op≠3)->Rel C.P w0 m (H q) w
 |0,h1,_,_=>by rw[show 0=p by omega];exact r
 | q +1,h1,I,R=>by
  by_cases e:p=q+1
  ·rw[<-e];exact r
  ·have ih:=H5.Ld B D r q (by omega) (by omega) (λx a b=>R x a (by omega));have hc:=R q (by omega) (by omega);rcases B.at_ D (p:=q) (by omega)with⟨_,_,Y,_⟩|⟨_,v,E,_,_⟩
   ·rw[Y];exact ih
   ·rw[Er hc]at E;unfold Gn at E;split at E
    ·simp only[zh,ze]at E;obtain⟨_,_,_,e⟩:=E;rw[<-e];exact ih
    ·split at E
     ·simp only[zh,ze]at E;obtain⟨_,_,_,e⟩:=E;rw[<-e];exact ih
     ·split at E
      ·simp only[zh,ze]at E;obtain⟨_,_,_,e⟩:=E;rw[<-e];exact ih
      ·cases E
    ·simp only[zh,ze]at E;obtain⟨_,_,_,e⟩:=E;rw[<-e];exact ih.ghost _
    ·rename_i h0 h1 I;exfalso;have:∀op,As C.P op=0\/As C.P op=1\/As C.P op=2\/As C.P op=3:=by
      intro op;unfold As
      repeat' split
      all_goals simp
     rcases this (BJ ops pl q).op with h|h|h|h
     ·exact h0 h
     ·exact h1 h
     ·exact I h
     ·exact hc h
end
end Go.Av
