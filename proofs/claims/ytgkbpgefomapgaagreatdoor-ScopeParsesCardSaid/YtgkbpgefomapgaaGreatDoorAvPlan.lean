/-
 A part.
-/
import Derived.Test.YtgkbpgefomapgaaGreatDoorAvStep
set_option linter.unusedSimpArgs false
namespace Go.Av
open Go.RowKit
def Sw(acc:List Nat)(o:Oper):Nat:=o.after.toList.foldl (λs e=>if Region.binds .any e then s ||| 2^e.on ||| acc.getD e.on 0 else s) 0
def closure:List Oper->List Nat->List Nat
 |[],acc=>acc
 |o::os,acc=>closure os (acc++[Sw acc o])
theorem QI(acc:List Nat)(j:Nat):∀(l:List Edge) (s:Nat),(l.foldl (λs e=>if Region.binds .any e then s ||| 2^e.on ||| acc.getD e.on 0 else s) s).testBit j=true↔
  s.testBit j=true\/∃e∈l,Region.binds .any e=true/\(j=e.on\/(acc.getD e.on 0).testBit j=true)
 |[],s=>by simp
 | e::l,s=>by
  rw[qE,QI acc j l];by_cases N:Region.binds .any e=true
  ·simp only[N,if_true,Nat.testBit_or,zW,Nat.testBit_two_pow,zx,zT,exists_eq_or_imp,qM];constructor
   ·rintro((((h|h)|h))|h)
    ·exact .inl h
    ·exact .inr (.inl (.inl h.symm))
    ·exact .inr (.inl (.inr h))
    ·exact .inr (.inr h)
   ·rintro(h|(h|h)|h)
    ·exact .inl (.inl (.inl h))
    ·exact .inl (.inl (.inr h.symm))
    ·exact .inl (.inr h)
    ·exact .inr h
  ·simp only[N,yx,if_false,zT,exists_eq_or_imp,false_and,false_or]
theorem Kr:∀(l:List Oper) (acc:List Nat) (i:Nat),i<acc.length->(closure l acc)[i]?=acc[i]?
 |[],acc,i,_=>rfl
 |o::l,acc,i,h=>by rw[closure,Kr l _ i (by simp;omega),List.getElem?_append_left h]
theorem Lo:∀(l:List Oper) (acc:List Nat) (k:Nat) (o:Oper) (j:Nat),l[k]?=some o->
  ((((closure l acc).getD (acc.length+k) 0).testBit j=true↔∃e∈o.after.toList,Region.binds .any e=true/\(j=e.on\/(e.on<acc.length+k/\((closure l acc).getD e.on 0).testBit j=true))))
 |[],acc,k,o,j,h=>by simp at h
 | o'::l,acc,0,o,j,h=>by
  simp only[List.getElem?_cons_zero,zd]at h;subst h;have e1:(closure (o'::l) acc).getD (acc.length+0) 0=Sw acc o':=by
   rw[zA,closure,Kr l _ _ (by simp),List.getElem?_append_right (by omega)];simp
  rw[e1,Sw,QI];simp only[Nat.zero_testBit,yx,false_or];constructor
  ·rintro⟨e,he,N,h|h⟩
   ·exact⟨e,he,N,.inl h⟩
   ·refine⟨e,he,N,.inr ?_⟩;by_cases Y:e.on<acc.length
    ·refine⟨by omega,?_⟩;rw[zA,closure,Kr l _ _ (by simp;omega),List.getElem?_append_left Y];simpa[zA]using h
    ·rw[zA,List.getElem?_eq_none (by omega)]at h;simp at h
  ·rintro⟨e,he,N,h|⟨Y,h⟩⟩
   ·exact⟨e,he,N,.inl h⟩
   ·refine⟨e,he,N,.inr ?_⟩;rw[zA,closure,Kr l _ _ (by simp;omega),List.getElem?_append_left (by omega)]at h;simpa[zA]using h
 |o'::l,acc,k+1,o,j,h=>by
  have ih:=Lo l (acc++[Sw acc o']) k o j (by simpa using h);simp only[zq,zD,zQ]at ih;rw[show acc.length+(k+1)=acc.length+(0+1)+k by omega];exact ih
def dep(cl:List Nat)(i j:Nat):Bool:=(cl.getD j 0).testBit i
def ON(ops:Array Oper)(cl:List Nat)(i:Nat):Bool:=
 match ops[i]? with
 | some o=>(List.range ops.size).all λj=>
   match ops[j]? with
   |some p=>
    match p.dst with
    |some t=>(Nat.beq j i|| !(o.dst==some t))&&(!(o.looksAt ops).contains t||(!Nat.beq j i&&dep cl j i))
    |none=>true
   |none=>true
 |none=>false
def Oy(P:Program)(ops:Array Oper)(cl:List Nat)(x y:Nat×List Nat):Bool:=
  (x.1 !=y.1)&& !dep cl y.1 x.1&&
  (dep cl x.1 y.1||
    (match ops[x.1]?,ops[y.1]? with
     |some a,some b=>a.apart ops b&&(Br P b.op==0||Br P a.op==0||(Br P a.op !=3&&(Br P b.op !=3||y.2.any (Nat.beq x.1)||(Br P a.op==1&&(y.2.any (Nat.beq (x.1+10000))&&ON ops cl x.1)))))
     |_,_=>false))
def P0(P:Program)(ops:Array Oper)(cl:List Nat):List (Nat×List Nat)->Bool
 |[]=>true
 |x::l=>l.all (λy=>Oy P ops cl x y)&&P0 P ops cl l
def P3:List Oper->Nat->Bool
 |[],_=>true
 |o::l,i=>o.after.toList.all (λe=> !Region.binds .any e||Nat.blt e.on i)&&P3 l (i+1)
theorem QQ:∀{l:List Oper} {i:Nat},P3 l i=true->∀{k:Nat} {o:Oper} {e:Edge},l[k]?=some o->e∈o.after.toList->Region.binds .any e=true->e.on<i+k
 |[],_,_,k,o,e,hk,_,_=>by simp at hk
 | o'::l,i,h,k,o,e,hk,he,N=>by
  simp only[P3,zj]at h;cases k with
  |zero=>
   simp only[List.getElem?_cons_zero,zd]at hk;subst hk;have:=zF.1 h.1 e he;rw[N]at this;simp only[z6,qp,yJ]at this;omega
  |succ k=>
   have:=QQ h.2 (k:=k) (by simpa using hk) he N;omega
def QN(P:Program)(ops:Array Oper)(pl:List (Nat×List Nat)):Bool:=
 let cl:=closure ops.toList []
 P3 ops.toList 0&&pl.all (λx=>Nat.blt x.1 ops.size)&&(List.range ops.size).all (λi=>pl.any λx=>Nat.beq x.1 i)&&P0 P ops cl pl
theorem Qu{P:Program}{ops:Array Oper}{cl:List Nat}:∀{pl:List (Nat×List Nat)},P0 P ops cl pl=true->∀{p q:Nat} {x y:Nat×List Nat},p<q->pl[p]?=some x->pl[q]?=some y->Oy P ops cl x y=true
 |[],_,p,q,x,y,_,G,_=>by simp at G
 | z::l,h,p,q,x,y,J,G,hy=>by
  simp only[P0,zj]at h;cases q with
  |zero=>omega
  | succ q=>
   have hy':l[q]?=some y:=by simpa using hy
   cases p with
   |zero=>
    simp only[List.getElem?_cons_zero,zd]at G;subst G;exact zF.1 h.1 y (zI hy')
   |succ p=>exact Qu h.2 (p:=p) (q:=q) (by omega) (by simpa using G) hy'
section
variable {C:J8} {S:Self}
structure NS(C:J8)(S:Self)(g:Gd)(ops:Array Oper)(pl:List (Nat×List Nat))(F:Nat->Fr)(H:Nat->AS)(T:Nat->List (Nat×Nat)):Prop where
  step:∀p x,pl[p]?=some x->∃o,ops[x.1]?=some o/\
    ((Dm ops (F p) o=some false/\F (p+1)=put (F p) o.dst (.tuple [])/\H (p+1)=H p/\T (p+1)=T p)\/
     (Dm ops (F p) o=some true/\∃v,CC C S ⟨g.floor,Je (T p) x.2++g.Bb⟩ (H p) (F p) o.op=some (v,H (p+1))/\F (p+1)=put (F p) o.dst v/\T (p+1)=H9 C.P (H p) (F p) x.1 o.op (T p)/\Mr C ops x.2 (F (p+1)) (H (p+1))=true))
theorem Mv{g:Gd}{ops:Array Oper}:∀(pl:List (Nat×List Nat)) (t:List (Nat×Nat)) (fr:Fr) (h:AS) (fr':Fr) (h':AS),Dx C S g ops pl t fr h=some (fr',h')->
    ∃F H T,NS C S g ops pl F H T/\F 0=fr/\H 0=h/\T 0=t/\F pl.length=fr'/\H pl.length=h'
  | [],t,fr,h,fr',h',M=>by
    simp only[Dx,zd,ze]at M;obtain⟨rfl,rfl⟩:=M;exact⟨λ_=>fr,λ_=>h,λ_=>t,⟨λp x G=>by simp at G⟩,rfl,rfl,rfl,rfl,rfl⟩
  | (i, U) ::pl,t,fr,h,fr',h',M=>by
    unfold Dx at M;split at M
    · cases M
    · rename_i o ho
      have glue:∀(fr1:Fr) (h1:AS) (t1:List (Nat×Nat)),Dx C S g ops pl t1 fr1 h1=some (fr',h')->
          ((Dm ops fr o=some false/\fr1=put fr o.dst (.tuple [])/\h1=h/\t1=t)\/
           (Dm ops fr o=some true/\∃v,CC C S ⟨g.floor,Je t U++g.Bb⟩ h fr o.op=some (v,h1)/\fr1=put fr o.dst v/\t1=H9 C.P h fr i o.op t/\Mr C ops U fr1 h1=true))->
          ∃F H T,NS C S g ops ((i,U)::pl) F H T/\F 0=fr/\H 0=h/\T 0=t/\F ((i,U)::pl).length=fr'/\H ((i,U)::pl).length=h':=by
        intro fr1 h1 t1 hrest hst;obtain⟨F,H,T,B,rfl,rfl,rfl,X,W⟩:=Mv pl t1 fr1 h1 fr' h' hrest;refine⟨fun|0=>fr|p+1=>F p,fun|0=>h|p+1=>H p,fun|0=>t|p+1=>T p,⟨λp x G=>?_⟩,rfl,rfl,rfl,by simpa using X,by simpa using W⟩;cases p with
        | zero=>
          simp only[List.getElem?_cons_zero,zd]at G;subst G;exact⟨o,ho,hst⟩
        |succ p=>exact B.step p x (by simpa using G)
      split at M
      · rename_i hw
        split at M
        · rename_i v h1 E
          cases hre:Mr C ops U (put fr o.dst v) h1 with
          |false=>rw[hre]at M;cases M
          | true=>
            rw[hre]at M;exact glue _ _ _ M (.inr ⟨hw,v,E,rfl,rfl,hre⟩)
        · cases M
      · rename_i hw
        exact glue _ _ _ M (.inl ⟨hw,rfl,rfl,rfl⟩)
      · cases M
end
def B8(pl:List (Nat×List Nat))(p:Nat):Nat:=(pl.getD p (0,[])).1
def Mu(pl:List (Nat×List Nat))(p:Nat):List Nat:=(pl.getD p (0,[])).2
def CS(ops:Array Oper)(pl:List (Nat×List Nat))(p:Nat):Oper:=ops.getD (B8 pl p) default
structure NU(P:Program)(ops:Array Oper)(pl:List (Nat×List Nat)):Prop where
 lt:∀p,p<pl.length->ops[B8 pl p]?=some (CS ops pl p)
 bR:∀i,i<ops.size->∃p,p<pl.length/\B8 pl p=i
 bW:∀p,p<pl.length->∀e∈(CS ops pl p).after.toList,Region.binds .any e=true->e.on<B8 pl p
 ne:∀p q,p<q->q<pl.length->B8 pl p≠B8 pl q
 ZA:∀p q,p<q->q<pl.length->dep (closure ops.toList []) (B8 pl q) (B8 pl p)=false
 pair:∀p q,p<q->q<pl.length->dep (closure ops.toList []) (B8 pl p) (B8 pl q)=true\/
  ((CS ops pl p).apart ops (CS ops pl q)=true/\(Br P (CS ops pl q).op=0\/Br P (CS ops pl p).op=0\/
   (Br P (CS ops pl p).op≠3/\(Br P (CS ops pl q).op≠3\/(Mu pl q).any (Nat.beq (B8 pl p))=true\/
    (Br P (CS ops pl p).op=1/\(Mu pl q).any (Nat.beq (B8 pl p+10000))=true/\ON ops (closure ops.toList []) (B8 pl p)=true)))))
theorem Vf{P:Program}{ops:Array Oper}{pl:List (Nat×List Nat)}(h:QN P ops pl=true):NU P ops pl:=by
 simp only[QN,zj]at h;obtain⟨⟨⟨h0,h1⟩,I⟩,O⟩:=h;have get:∀p,p<pl.length->pl[p]?=some (B8 pl p,Mu pl p):=λp D=>by
  simp[B8,Mu,zA,List.getElem?_eq_getElem D]
 have lt:∀p,p<pl.length->B8 pl p<ops.size:=λp D=>by
  have:=zF.1 h1 _ (zI (get p D));rw[yJ]at this;exact this
 have lt':∀p,p<pl.length->ops[B8 pl p]?=some (CS ops pl p):=λp D=>by
  have:=lt p D;simp[CS,zu,this]
 have pk:∀p q,p<q->q<pl.length->Oy P ops (closure ops.toList []) (B8 pl p,Mu pl p) (B8 pl q,Mu pl q)=true:=λp q J Z=>
  Qu O J (get p (by omega)) (get q Z)
 refine⟨lt',λi hi=>?_,λp D e he N=>?_,λp q J Z=>?_,λp q J Z=>?_,λp q J Z=>?_⟩
 ·have:=zF.1 I i (by simpa using hi);obtain⟨x,G,hxi⟩:=qy.1 this;obtain⟨p,D,rfl⟩:=List.mem_iff_getElem.1 G;refine⟨p,D,?_⟩;rw[<-zJ hxi];simp[B8,zA,List.getElem?_eq_getElem D]
 ·have:=QQ h0 (k:=B8 pl p) (by simpa using lt' p D) he N;omega
 ·have:=pk p q J Z;simp only[Oy,zj,bne_iff_ne]at this;exact this.1.1
 ·have:=pk p q J Z;simp only[Oy,zj,zK]at this;exact this.1.2
 ·have:=pk p q J Z;simp only[Oy,zj,zW]at this;rcases this.2 with hd|hd
  ·exact .inl hd
  ·right;rw[lt' p (by omega),lt' q Z]at hd;simp only[zj,zW,yu,bne_iff_ne]at hd;refine⟨hd.1,?_⟩;rcases hd.2 with(a|a)|⟨a,b⟩
   ·exact .inl a
   ·exact .inr (.inl a)
   ·refine .inr (.inr ⟨a,?_⟩);rcases b with(b|b)|⟨b,c,d⟩
    ·exact .inl b
    ·exact .inr (.inl b)
    ·exact .inr (.inr ⟨b,c,d⟩)
def Jn(f:Nat->Bool):Nat->Nat->Nat
 |s,0=>s
 |s,k+1=>if f s=true then s else Jn f (s+1) k
theorem Fx(f:Nat->Bool):∀(k s:Nat),s<=Jn f s k/\Jn f s k<=s+k/\(∀p,s<=p->p<Jn f s k->f p=false)/\(Jn f s k<s+k->f (Jn f s k)=true)
 |0,s=>⟨zo _,zo _,λp h1 I=>by simp[Jn]at I;omega,λh=>by simp[Jn]at h⟩
 | k+1,s=>by
  unfold Jn;by_cases hf:f s=true
  ·rw[zk hf];exact⟨zo _,by omega,λp h1 I=>by omega,λ_=>hf⟩
  ·rw[zm hf];obtain⟨a,b,c,d⟩:=Fx f k (s+1);refine⟨by omega,by omega,λp h1 I=>?_,λh=>d (by omega)⟩;by_cases e:p=s
   ·subst e;simpa using hf
   ·exact c p (by omega) I
theorem OJ(f:Nat->Bool){n r:Nat}(M:r<=n)(h1:∀p,p<r->f p=false)(I:r<n->f r=true):Jn f 0 n=r:=by
 obtain⟨a,b,c,d⟩:=Fx f n 0;rcases qb (Jn f 0 n) r with h|h|h
 ·have:=h1 _ h;rw[d (by omega)]at this;cases this
 ·exact h
 ·have:=c r (by omega) h;rw[I (by omega)]at this;cases this
section
variable {C:J8} {S:Self} {g:Gd} {ops:Array Oper} {pl:List (Nat×List Nat)} {F:Nat->Fr} {H:Nat->AS} {T:Nat->List (Nat×Nat)}
theorem NS.at_(B:NS C S g ops pl F H T)(D:NU C.P ops pl){p:Nat}(h:p<pl.length):
  (Dm ops (F p) (CS ops pl p)=some false/\F (p+1)=put (F p) (CS ops pl p).dst (.tuple [])/\H (p+1)=H p/\T (p+1)=T p)\/
  (Dm ops (F p) (CS ops pl p)=some true/\∃v,CC C S ⟨g.floor,Je (T p) (Mu pl p)++g.Bb⟩ (H p) (F p) (CS ops pl p).op=some (v,H (p+1))/\F (p+1)=put (F p) (CS ops pl p).dst v/\
   T (p+1)=H9 C.P (H p) (F p) (B8 pl p) (CS ops pl p).op (T p)/\Mr C ops (Mu pl p) (F (p+1)) (H (p+1))=true):=by
 have G:pl[p]?=some (B8 pl p,Mu pl p):=by simp[B8,Mu,zA,List.getElem?_eq_getElem h]
 obtain⟨o,ho,hst⟩:=B.step p _ G;rw[D.lt p h]at ho;injection ho with ho;subst ho;exact hst
theorem NS.len(B:NS C S g ops pl F H T)(D:NU C.P ops pl):∀p,p<=pl.length->(F p).length=(F 0).length
 |0,_=>rfl
 |p+1,h=>by
  rw[<-NS.len B D p (by omega)];rcases B.at_ D (p:=p) (by omega)with⟨_,X,_⟩|⟨_,v,_,X,_⟩<;>rw[X]<;>simp
theorem Q8(fr:Fr){d:Option Tmp}{t:Nat}(v:AE)(h:d≠some t):nth (put fr d v) t=nth fr t:=by
 cases d with
 |none=>rfl
 |some d=>
  simp only[put];rw[Ip,zm (by rintro⟨rfl,_⟩;exact h rfl)]
theorem NS.slot(B:NS C S g ops pl F H T)(D:NU C.P ops pl){t p:Nat}:∀q,p<=q->q<=pl.length->(∀x,p<=x->x<q->(CS ops pl x).dst≠some t)->nth (F q) t=nth (F p) t
 |0,h1,_,_=>by rw[show p=0 by omega]
 | q+1,h1,I,O=>by
  by_cases e:p=q+1
  ·rw[e]
  ·rw[<-NS.slot B D q (by omega) (by omega) (λx a b=>O x a (by omega))];have hne:=O q (by omega) (by omega);rcases B.at_ D (p:=q) (by omega)with⟨_,X,_⟩|⟨_,v,_,X,_⟩<;>rw[X,Q8 _ _ hne]
theorem NS.keeps(B:NS C S g ops pl F H T)(D:NU C.P ops pl)(V:Kv C.P C.GZ S){p:Nat}(h:p<pl.length):CT ⟨g.floor,Je (T p) (Mu pl p)++g.Bb⟩ (H p) (H (p+1)):=by
 rcases B.at_ D h with⟨_,_,W,_⟩|⟨_,v,E,_,_⟩
 ·rw[W];exact CT.refl _ _
 ·exact Mp V E
theorem NS.size(B:NS C S g ops pl F H T)(D:NU C.P ops pl)(V:Kv C.P C.GZ S){p:Nat}:∀q,p<=q->q<=pl.length->(H p).size<=(H q).size
 |0,h1,_=>by rw[show p=0 by omega];exact zo _
 |q+1,h1,I=>by
  by_cases e:p=q+1
  ·rw[e];exact zo _
  ·exact zV (NS.size B D V q (by omega) (by omega)) (B.keeps D V (p:=q) (by omega)).1
theorem TP{g:Gd}{t:List (Nat×Nat)}{U:List Nat}{i id:Nat}(h1:(i,id)∈t)(I:U.any (Nat.beq i)=true):(⟨g.floor,Je t U++g.Bb⟩:Gd).may id=false:=by
 have:(Je t U++g.Bb).any (Nat.beq id)=true:=by
  refine qy.2 ⟨id,zp.2 (.inl (qt.2 ⟨(i,id),h1,?_⟩)),yL id⟩;simp[I]
 simp[Gd.may,this]
theorem Ur{g:Gd}{l:List Nat}(id:Nat)(h:g.may id=false):(⟨g.floor,l++g.Bb⟩:Gd).may id=false:=by
 simp only[Gd.may,yz,yg]at h⊢;rcases h with h|h
 ·exact .inl h
 ·right;simp[qH,h]
theorem NS.told(B:NS C S g ops pl F H T)(D:NU C.P ops pl){p:Nat}{x:Nat×Nat}(G:x∈T p):∀q,p<=q->q<=pl.length->x∈T q
 |0,h1,_=>by rw[show 0=p by omega];exact G
 | q +1,h1,I=>by
  by_cases e:p=q+1
  ·rw[<-e];exact G
  ·have ih:=NS.told B D G q (by omega) (by omega);rcases B.at_ D (p:=q) (by omega)with⟨_,_,_,hT⟩|⟨_,v,_,_,hT,_⟩
   ·rw[hT];exact ih
   ·rw[hT];unfold H9;split
    ·split
     ·exact zM _ ih
     ·exact ih
    ·exact zM _ ih
    ·exact ih
theorem NS.same(B:NS C S g ops pl F H T)(D:NU C.P ops pl)(V:Kv C.P C.GZ S){p i id:Nat}(G:(i,id)∈T p)(hid:id<(H p).size):
  ∀q,p<=q->q<=pl.length->(∀x,p<=x->x<q->Br C.P (CS ops pl x).op=3->(Mu pl x).any (Nat.beq i)=true)->(H q).get id=(H p).get id
 |0,h1,_,_=>by rw[show p=0 by omega]
 | q + 1,h1,I,O=>by
  by_cases e:p=q+1
  ·rw[e]
  ·rw [<-NS.same B D V G hid q (by omega) (by omega) (λx a b=>O x a (by omega))];have K:id<(H q).size:=zR hid (B.size D V q (by omega) (by omega));by_cases hc:Br C.P (CS ops pl q).op=3
   ·exact(B.keeps D V (p:=q) (by omega)).2 id K (TP (B.told D G q (by omega) (by omega)) (O q (by omega) (by omega) hc))
   ·rcases B.at_ D (p:=q) (by omega)with⟨_,_,W,_⟩|⟨_,v,E,_,_⟩
    ·rw[W]
    ·rw[I9 hc]at E;unfold J7 at E;split at E
     ·simp only[zg,ze]at E;obtain⟨_,_,_,e⟩:=E;rw[<-e]
     ·split at E
      ·simp only[zg,ze]at E;obtain⟨_,_,_,e⟩:=E;rw[<-e]
      ·split at E
       ·simp only[zg,ze]at E;obtain⟨_,_,_,e⟩:=E;rw[<-e]
       ·cases E
     ·simp only[zg,ze]at E;obtain⟨_,_,_,e⟩:=E;rw[<-e];exact AS.EZ _ _ K
     ·rename_i h0 h1 I;exfalso;have:∀op,Br C.P op=0\/Br C.P op=1\/Br C.P op=2\/Br C.P op=3:=by
       intro op;unfold Br
       repeat' split
       all_goals simp
      rcases this (CS ops pl q).op with h|h|h|h
      ·exact h0 h
      ·exact h1 h
      ·exact I h
      ·exact hc h
theorem Xb{v x:AE}(h:R0 v x=true):v=x:=by
 unfold R0 at h;split at h
 ·simp only[zj]at h;rw[zJ h.1,zJ h.2]
 ·simp only[zj,zx]at h;rw[h.1,h.2]
 ·simp only[yu]at h;rw[h]
 ·simp only[zx]at h;rw[h]
 ·rfl
 ·cases h
theorem NS.reads(B:NS C S g ops pl F H T)(D:NU C.P ops pl)(V:Kv C.P C.GZ S){p id:Nat}{ob:Dc}{x:AE}(hpn:p<pl.length)(hw:Dm ops (F p) (CS ops pl p)=some true)
  (ht:Es (F p) (CS ops pl p).op=some id) (hg:(H (p+1)).get id=some ob) (G:MJ C.P C.GZ (F p) (some ob) (CS ops pl p).op=some x) (X:F (p+1)=put (F p) (CS ops pl p).dst x) (hmem:(B8 pl p,id)∈T (p+1)):
  ∀q,p+1<=q->q<=pl.length->(∀y,p<y->y<q->Br C.P (CS ops pl y).op=3->(Mu pl y).any (Nat.beq (B8 pl p))=true\/((Mu pl y).any (Nat.beq (B8 pl p+10000))=true/\ON ops (closure ops.toList []) (B8 pl p)=true))->
   ∃ob',(H q).get id=some ob'/\MJ C.P C.GZ (F p) (some ob') (CS ops pl p).op=some x
 |0,h1,_,_=>by omega
 | q + 1, h1,I,O=>by
  by_cases e:p=q
  ·subst e;exact⟨ob,hg,G⟩
  ·obtain ⟨ob',g1,g2⟩:=NS.reads B D V hpn hw ht hg G X hmem q (by omega) (by omega) (λy a b=>O y a (by omega));have K:=(H q).D6 g1;have old:(H (q+1)).get id=(H q).get id->∃ob',(H (q+1)).get id=some ob'/\MJ C.P C.GZ (F p) (some ob') (CS ops pl p).op=some x:=λe=>⟨ob',by rw[e];exact g1,g2⟩;by_cases hc:Br C.P (CS ops pl q).op=3
   ·rcases O q (by omega) (by omega) hc with hu|⟨hu,Q⟩
    ·exact old ((B.keeps D V (p:=q) (by omega)).2 id K (TP (B.told D hmem q (by omega) (by omega)) hu))
    ·rcases B.at_ D (p:=q) (by omega)with⟨_,_,W,_⟩|⟨_,v,E,hFq,_,hre⟩
     ·rw[W];exact⟨ob',g1,g2⟩
     ·unfold Mr at hre;obtain⟨u,hum,hue⟩:=qy.1 hu;have hue:=zJ hue;have L:=zF.1 hre u hum;have hbl:Nat.blt u 10000=false:=by rw[<-Bool.not_eq_true,yJ];omega
      rw[hbl,qp,show u - 10000=B8 pl p by omega]at L;unfold Rn at L;unfold ON at Q;rw[D.lt p hpn]at L Q;simp only at L Q;have noW:∀y,p<y->y<=q->∀t,(CS ops pl y).dst=some t->(CS ops pl p).dst≠some t/\t∉(CS ops pl p).looksAt ops:=by
       intro y a b t hd;have hyn:y<pl.length:=by omega
       have hly:=D.lt y hyn;have h6:=zF.1 Q (B8 pl y) (by simpa using(Array.getElem?_eq_some_iff.1 hly).1);rw[hly]at h6;simp only[hd,zj,zW,zK]at h6;refine⟨λe=>?_,λhm=>?_⟩
       ·rcases h6.1 with h|h
        ·exact D.ne p y a hyn (zJ h).symm
        ·rw[e]at h;simp at h
       ·rcases h6.2 with h|h
        ·have:((CS ops pl p).looksAt ops).contains t=true:=by simpa using hm
         rw[this]at h;cases h
        ·rw[D.ZA p y a hyn]at h;exact absurd h.2 (by simp)
      have sameL:∀t∈(CS ops pl p).looksAt ops,(CS ops pl p).dst≠some t->nth (F (q+1)) t=nth (F p) t:=by
       intro t hm hd;refine B.slot D (q+1) (by omega) (by omega) λy a b hy=>?_;by_cases e:y=p
       ·subst e;exact hd hy
       ·exact(noW y (by omega) (by omega) t hy).2 hm
      have hself:∀t∈(CS ops pl p).looksAt ops,(CS ops pl p).dst≠some t:=by
       intro t hm hd;have hlp:=D.lt p hpn;have h6:=zF.1 Q (B8 pl p) (by simpa using(Array.getElem?_eq_some_iff.1 hlp).1);rw[hlp]at h6;simp only[hd,zj,zW,zK]at h6;rcases h6.2 with h|h
       ·have:((CS ops pl p).looksAt ops).contains t=true:=by simpa using hm
        rw[this]at h;cases h
       ·simp only[yL]at h;exact absurd h.1 (by simp)
      have MB:∀t∈(CS ops pl p).looksAt ops,nth (F (q+1)) t=nth (F p) t:=λt hm=>sameL t hm (hself t hm);rw[Lk MB,hw]at L;simp only at L;have hso:=SB MB;rw[Mb hso,ht]at L;split at L
      ·rename_i d id' hd R;injection R with R;subst R;simp only[zj]at L;obtain⟨Y,L⟩:=L;split at L
       ·rename_i ob2 hg2;split at L
        ·rename_i v2 hv2;refine⟨ob2,hg2,?_⟩;rw[OI hso]at hv2;have e1:=Xb L;have e2:nth (F (q+1)) d=nth (F (p+1)) d:=B.slot D (q+1) (by omega) (by omega) λy a b hy=>(noW y (by omega) (by omega) d hy).1 hd;have e3:nth (F (p+1)) d=x:=by
          rw[X,hd];show nth ((F p).set d x) d=x;have hl1:=B.len D (q+1) (by omega);have hl2:=B.len D p (by omega);rw[yJ]at Y;rw[Ip,zk ⟨rfl,by omega⟩]
         rw[hv2,e1,e2,e3]
        ·cases L
       ·cases L
      ·cases L
   ·refine old ?_;rcases B.at_ D (p:=q) (by omega)with⟨_,_,W,_⟩|⟨_,v,E,_,_⟩
    ·rw[W]
    ·rw[I9 hc]at E;unfold J7 at E;split at E
     ·simp only[zg,ze]at E;obtain⟨_,_,_,e⟩:=E;rw[<-e]
     ·split at E
      ·simp only[zg,ze]at E;obtain⟨_,_,_,e⟩:=E;rw[<-e]
      ·split at E
       ·simp only[zg,ze]at E;obtain⟨_,_,_,e⟩:=E;rw[<-e]
       ·cases E
     ·simp only[zg,ze]at E;obtain⟨_,_,_,e⟩:=E;rw[<-e];exact AS.EZ _ _ K
     ·rename_i h0 h1 I;exfalso;have:∀op,Br C.P op=0\/Br C.P op=1\/Br C.P op=2\/Br C.P op=3:=by
       intro op;unfold Br
       repeat' split
       all_goals simp
      rcases this (CS ops pl q).op with h|h|h|h
      ·exact h0 h
      ·exact h1 h
      ·exact I h
      ·exact hc h
theorem NS.SK(B:NS C S g ops pl F H T)(D:NU C.P ops pl){w0:World}{m:CU}{w:World}{p:Nat}(r:Rel C.P w0 m (H p) w):
  ∀q,p<=q->q<=pl.length->(∀x,p<=x->x<q->Br C.P (CS ops pl x).op≠3)->Rel C.P w0 m (H q) w
 |0,h1,_,_=>by rw[show 0=p by omega];exact r
 | q +1,h1,I,O=>by
  by_cases e:p=q+1
  ·rw[<-e];exact r
  ·have ih:=NS.SK B D r q (by omega) (by omega) (λx a b=>O x a (by omega));have hc:=O q (by omega) (by omega);rcases B.at_ D (p:=q) (by omega)with⟨_,_,W,_⟩|⟨_,v,E,_,_⟩
   ·rw[W];exact ih
   ·rw[I9 hc]at E;unfold J7 at E;split at E
    ·simp only[zg,ze]at E;obtain⟨_,_,_,e⟩:=E;rw[<-e];exact ih
    ·split at E
     ·simp only[zg,ze]at E;obtain⟨_,_,_,e⟩:=E;rw[<-e];exact ih
     ·split at E
      ·simp only[zg,ze]at E;obtain⟨_,_,_,e⟩:=E;rw[<-e];exact ih
      ·cases E
    ·simp only[zg,ze]at E;obtain⟨_,_,_,e⟩:=E;rw[<-e];exact ih.ghost _
    ·rename_i h0 h1 I;exfalso;have:∀op,Br C.P op=0\/Br C.P op=1\/Br C.P op=2\/Br C.P op=3:=by
      intro op;unfold Br
      repeat' split
      all_goals simp
     rcases this (CS ops pl q).op with h|h|h|h
     ·exact h0 h
     ·exact h1 h
     ·exact I h
     ·exact hc h
end
end Go.Av
