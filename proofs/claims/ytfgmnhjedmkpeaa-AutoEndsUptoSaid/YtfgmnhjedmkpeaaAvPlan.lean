/-
 A part.
-/
import Derived.Test.YtfgmnhjedmkpeaaAvStep
set_option linter.unusedSimpArgs false
namespace Go.Av
open Go.RowKit
def Ja(acc:List Nat)(o:Oper):Nat:=o.after.toList.foldl (λs e=>if Region.binds .any e then s ||| 2^e.on ||| acc.getD e.on 0 else s) 0
def closure:List Oper->List Nat->List Nat
 |[],acc=>acc
 |o::os,acc=>closure os (acc++[Ja acc o])
theorem IK(acc:List Nat)(j:Nat):∀(l:List Edge) (s:Nat),(l.foldl (λs e=>if Region.binds .any e then s ||| 2^e.on ||| acc.getD e.on 0 else s) s).testBit j=true↔
  s.testBit j=true\/∃e∈l,Region.binds .any e=true/\(j=e.on\/(acc.getD e.on 0).testBit j=true)
 |[],s=>by simp
 | e::l,s=>by
  rw[qB,IK acc j l];by_cases O:Region.binds .any e=true
  ·simp only[O,if_true,Nat.testBit_or,zL,Nat.testBit_two_pow,zq,zP,exists_eq_or_imp,yZ];constructor
   ·rintro((((h|h)|h))|h)
    ·exact .inl h
    ·exact .inr (.inl (.inl h.symm))
    ·exact .inr (.inl (.inr h))
    ·exact .inr (.inr h)
   ·rintro(h|(h|h)|h)
    ·exact .inl (.inl (.inl h))
    ·exact .inl (.inl (.inr h.symm))
    ·exact .inl (.inr h)
    ·exact .inr h
  ·simp only[O,zF,if_false,zP,exists_eq_or_imp,false_and,false_or]
theorem EX:∀(l:List Oper) (acc:List Nat) (i:Nat),i<acc.length->(closure l acc)[i]?=acc[i]?
 |[],acc,i,_=>rfl
 |o::l,acc,i,h=>by rw[closure,EX l _ i (by simp;omega),List.getElem?_append_left h]
theorem FZ:∀(l:List Oper) (acc:List Nat) (k:Nat) (o:Oper) (j:Nat),l[k]?=some o->
  ((((closure l acc).getD (acc.length+k) 0).testBit j=true↔∃e∈o.after.toList,Region.binds .any e=true/\(j=e.on\/(e.on<acc.length+k/\((closure l acc).getD e.on 0).testBit j=true))))
 |[],acc,k,o,j,h=>by simp at h
 | o'::l,acc,0,o,j,h=>by
  simp only[List.getElem?_cons_zero,za]at h;subst h;have e1:(closure (o'::l) acc).getD (acc.length+0) 0=Ja acc o':=by
   rw[zo,closure,EX l _ _ (by simp),List.getElem?_append_right (by omega)];simp
  rw[e1,Ja,IK];simp only[Nat.zero_testBit,zF,false_or];constructor
  ·rintro⟨e,he,O,h|h⟩
   ·exact⟨e,he,O,.inl h⟩
   ·refine⟨e,he,O,.inr ?_⟩;by_cases Z:e.on<acc.length
    ·refine⟨by omega,?_⟩;rw[zo,closure,EX l _ _ (by simp;omega),List.getElem?_append_left Z];simpa[zo]using h
    ·rw[zo,List.getElem?_eq_none (by omega)]at h;simp at h
  ·rintro⟨e,he,O,h|⟨Z,h⟩⟩
   ·exact⟨e,he,O,.inl h⟩
   ·refine⟨e,he,O,.inr ?_⟩;rw[zo,closure,EX l _ _ (by simp;omega),List.getElem?_append_left (by omega)]at h;simpa[zo]using h
 |o'::l,acc,k+1,o,j,h=>by
  have ih:=FZ l (acc++[Ja acc o']) k o j (by simpa using h);simp only[zA,zT,yK]at ih;rw[show acc.length+(k+1)=acc.length+(0+1)+k by omega];exact ih
def dep(cl:List Nat)(i j:Nat):Bool:=(cl.getD j 0).testBit i
def LN(ops:Array Oper)(cl:List Nat)(i:Nat):Bool:=
 match ops[i]? with
 | some o=>(List.range ops.size).all λj=>
   match ops[j]? with
   |some p=>
    match p.dst with
    |some t=>(Nat.beq j i|| !(o.dst==some t))&&(!(o.looksAt ops).contains t||(!Nat.beq j i&&dep cl j i))
    |none=>true
   |none=>true
 |none=>false
def HM(P:Program)(ops:Array Oper)(cl:List Nat)(x y:Nat×List Nat):Bool:=
  (x.1 !=y.1)&& !dep cl y.1 x.1&&
  (dep cl x.1 y.1||
    (match ops[x.1]?,ops[y.1]? with
     |some a,some b=>a.apart ops b&&(AX P b.op==0||AX P a.op==0||(AX P a.op !=3&&(AX P b.op !=3||y.2.any (Nat.beq x.1)||(AX P a.op==1&&(y.2.any (Nat.beq (x.1+10000))&&LN ops cl x.1)))))
     |_,_=>false))
def Hz(P:Program)(ops:Array Oper)(cl:List Nat):List (Nat×List Nat)->Bool
 |[]=>true
 |x::l=>l.all (λy=>HM P ops cl x y)&&Hz P ops cl l
def Hw:List Oper->Nat->Bool
 |[],_=>true
 |o::l,i=>o.after.toList.all (λe=> !Region.binds .any e||Nat.blt e.on i)&&Hw l (i+1)
theorem IG:∀{l:List Oper} {i:Nat},Hw l i=true->∀{k:Nat} {o:Oper} {e:Edge},l[k]?=some o->e∈o.after.toList->Region.binds .any e=true->e.on<i+k
 |[],_,_,k,o,e,hk,_,_=>by simp at hk
 | o'::l,i,h,k,o,e,hk,he,O=>by
  simp only[Hw,zf]at h;cases k with
  |zero=>
   simp only[List.getElem?_cons_zero,za]at hk;subst hk;have:=zC.1 h.1 e he;rw[O]at this;simp only[zZ,qp,yc]at this;omega
  |succ k=>
   have:=IG h.2 (k:=k) (by simpa using hk) he O;omega
def IN(P:Program)(ops:Array Oper)(pl:List (Nat×List Nat)):Bool:=
 let cl:=closure ops.toList []
 Hw ops.toList 0&&pl.all (λx=>Nat.blt x.1 ops.size)&&(List.range ops.size).all (λi=>pl.any λx=>Nat.beq x.1 i)&&Hz P ops cl pl
theorem IE{P:Program}{ops:Array Oper}{cl:List Nat}:∀{pl:List (Nat×List Nat)},Hz P ops cl pl=true->∀{p q:Nat} {x y:Nat×List Nat},p<q->pl[p]?=some x->pl[q]?=some y->HM P ops cl x y=true
 |[],_,p,q,x,y,_,G,_=>by simp at G
 | z::l,h,p,q,x,y,J,G,hy=>by
  simp only[Hz,zf]at h;cases q with
  |zero=>omega
  | succ q=>
   have hy':l[q]?=some y:=by simpa using hy
   cases p with
   |zero=>
    simp only[List.getElem?_cons_zero,za]at G;subst G;exact zC.1 h.1 y (zI hy')
   |succ p=>exact IE h.2 (p:=p) (q:=q) (by omega) (by simpa using G) hy'
section
variable {C:Eu} {S:Self}
structure Gc(C:Eu)(S:Self)(g:Gd)(ops:Array Oper)(pl:List (Nat×List Nat))(F:Nat->Fr)(H:Nat->AB)(T:Nat->List (Nat×Nat)):Prop where
  step:∀p x,pl[p]?=some x->∃o,ops[x.1]?=some o/\
    ((A6 ops (F p) o=some false/\F (p+1)=put (F p) o.dst (.tuple [])/\H (p+1)=H p/\T (p+1)=T p)\/
     (A6 ops (F p) o=some true/\∃v,Ap C S ⟨g.floor,EA (T p) x.2++g.B4⟩ (H p) (F p) o.op=some (v,H (p+1))/\F (p+1)=put (F p) o.dst v/\T (p+1)=C0 C.P (H p) (F p) x.1 o.op (T p)/\JG C ops x.2 (F (p+1)) (H (p+1))=true))
theorem F2{g:Gd}{ops:Array Oper}:∀(pl:List (Nat×List Nat)) (t:List (Nat×Nat)) (fr:Fr) (h:AB) (fr':Fr) (h':AB),BA C S g ops pl t fr h=some (fr',h')->
    ∃F H T,Gc C S g ops pl F H T/\F 0=fr/\H 0=h/\T 0=t/\F pl.length=fr'/\H pl.length=h'
  | [],t,fr,h,fr',h',M=>by
    simp only[BA,za,zb]at M;obtain⟨rfl,rfl⟩:=M;exact⟨λ_=>fr,λ_=>h,λ_=>t,⟨λp x G=>by simp at G⟩,rfl,rfl,rfl,rfl,rfl⟩
  | (i, U) ::pl,t,fr,h,fr',h',M=>by
    unfold BA at M;split at M
    · cases M
    · rename_i o ho
      have glue:∀(fr1:Fr) (h1:AB) (t1:List (Nat×Nat)),BA C S g ops pl t1 fr1 h1=some (fr',h')->
          ((A6 ops fr o=some false/\fr1=put fr o.dst (.tuple [])/\h1=h/\t1=t)\/
           (A6 ops fr o=some true/\∃v,Ap C S ⟨g.floor,EA t U++g.B4⟩ h fr o.op=some (v,h1)/\fr1=put fr o.dst v/\t1=C0 C.P h fr i o.op t/\JG C ops U fr1 h1=true))->
          ∃F H T,Gc C S g ops ((i,U)::pl) F H T/\F 0=fr/\H 0=h/\T 0=t/\F ((i,U)::pl).length=fr'/\H ((i,U)::pl).length=h':=by
        intro fr1 h1 t1 hrest hst;obtain⟨F,H,T,B,rfl,rfl,rfl,Y,X⟩:=F2 pl t1 fr1 h1 fr' h' hrest;refine⟨fun|0=>fr|p+1=>F p,fun|0=>h|p+1=>H p,fun|0=>t|p+1=>T p,⟨λp x G=>?_⟩,rfl,rfl,rfl,by simpa using Y,by simpa using X⟩;cases p with
        | zero=>
          simp only[List.getElem?_cons_zero,za]at G;subst G;exact⟨o,ho,hst⟩
        |succ p=>exact B.step p x (by simpa using G)
      split at M
      · rename_i hw
        split at M
        · rename_i v h1 E
          cases hre:JG C ops U (put fr o.dst v) h1 with
          |false=>rw[hre]at M;cases M
          | true=>
            rw[hre]at M;exact glue _ _ _ M (.inr ⟨hw,v,E,rfl,rfl,hre⟩)
        · cases M
      · rename_i hw
        exact glue _ _ _ M (.inl ⟨hw,rfl,rfl,rfl⟩)
      · cases M
end
def Ae(pl:List (Nat×List Nat))(p:Nat):Nat:=(pl.getD p (0,[])).1
def Gx(pl:List (Nat×List Nat))(p:Nat):List Nat:=(pl.getD p (0,[])).2
def Al(ops:Array Oper)(pl:List (Nat×List Nat))(p:Nat):Oper:=ops.getD (Ae pl p) default
structure Gf(P:Program)(ops:Array Oper)(pl:List (Nat×List Nat)):Prop where
 lt:∀p,p<pl.length->ops[Ae pl p]?=some (Al ops pl p)
 WT:∀i,i<ops.size->∃p,p<pl.length/\Ae pl p=i
 W7:∀p,p<pl.length->∀e∈(Al ops pl p).after.toList,Region.binds .any e=true->e.on<Ae pl p
 ne:∀p q,p<q->q<pl.length->Ae pl p≠Ae pl q
 Qp:∀p q,p<q->q<pl.length->dep (closure ops.toList []) (Ae pl q) (Ae pl p)=false
 pair:∀p q,p<q->q<pl.length->dep (closure ops.toList []) (Ae pl p) (Ae pl q)=true\/
  ((Al ops pl p).apart ops (Al ops pl q)=true/\(AX P (Al ops pl q).op=0\/AX P (Al ops pl p).op=0\/
   (AX P (Al ops pl p).op≠3/\(AX P (Al ops pl q).op≠3\/(Gx pl q).any (Nat.beq (Ae pl p))=true\/
    (AX P (Al ops pl p).op=1/\(Gx pl q).any (Nat.beq (Ae pl p+10000))=true/\LN ops (closure ops.toList []) (Ae pl p)=true)))))
theorem LV{P:Program}{ops:Array Oper}{pl:List (Nat×List Nat)}(h:IN P ops pl=true):Gf P ops pl:=by
 simp only[IN,zf]at h;obtain⟨⟨⟨h0,h1⟩,I⟩,Q⟩:=h;have get:∀p,p<pl.length->pl[p]?=some (Ae pl p,Gx pl p):=λp D=>by
  simp[Ae,Gx,zo,List.getElem?_eq_getElem D]
 have lt:∀p,p<pl.length->Ae pl p<ops.size:=λp D=>by
  have:=zC.1 h1 _ (zI (get p D));rw[yc]at this;exact this
 have lt':∀p,p<pl.length->ops[Ae pl p]?=some (Al ops pl p):=λp D=>by
  have:=lt p D;simp[Al,zp,this]
 have pk:∀p q,p<q->q<pl.length->HM P ops (closure ops.toList []) (Ae pl p,Gx pl p) (Ae pl q,Gx pl q)=true:=λp q J hq=>
  IE Q J (get p (by omega)) (get q hq)
 refine⟨lt',λi hi=>?_,λp D e he O=>?_,λp q J hq=>?_,λp q J hq=>?_,λp q J hq=>?_⟩
 ·have:=zC.1 I i (by simpa using hi);obtain⟨x,G,hxi⟩:=y7.1 this;obtain⟨p,D,rfl⟩:=List.mem_iff_getElem.1 G;refine⟨p,D,?_⟩;rw[<-zD hxi];simp[Ae,zo,List.getElem?_eq_getElem D]
 ·have:=IG h0 (k:=Ae pl p) (by simpa using lt' p D) he O;omega
 ·have:=pk p q J hq;simp only[HM,zf,qa]at this;exact this.1.1
 ·have:=pk p q J hq;simp only[HM,zf,zx]at this;exact this.1.2
 ·have:=pk p q J hq;simp only[HM,zf,zL]at this;rcases this.2 with N|N
  ·exact .inl N
  ·right;rw[lt' p (by omega),lt' q hq]at N;simp only[zf,zL,z3,qa]at N;refine⟨N.1,?_⟩;rcases N.2 with(a|a)|⟨a,b⟩
   ·exact .inl a
   ·exact .inr (.inl a)
   ·refine .inr (.inr ⟨a,?_⟩);rcases b with(b|b)|⟨b,c,d⟩
    ·exact .inl b
    ·exact .inr (.inl b)
    ·exact .inr (.inr ⟨b,c,d⟩)
def D1(f:Nat->Bool):Nat->Nat->Nat
 |s,0=>s
 |s,k+1=>if f s=true then s else D1 f (s+1) k
theorem Bn(f:Nat->Bool):∀(k s:Nat),s<=D1 f s k/\D1 f s k<=s+k/\(∀p,s<=p->p<D1 f s k->f p=false)/\(D1 f s k<s+k->f (D1 f s k)=true)
 |0,s=>⟨zr _,zr _,λp h1 I=>by simp[D1]at I;omega,λh=>by simp[D1]at h⟩
 | k+1,s=>by
  unfold D1;by_cases hf:f s=true
  ·rw[zk hf];exact⟨zr _,by omega,λp h1 I=>by omega,λ_=>hf⟩
  ·rw[zh hf];obtain⟨a,b,c,d⟩:=Bn f k (s+1);refine⟨by omega,by omega,λp h1 I=>?_,λh=>d (by omega)⟩;by_cases e:p=s
   ·subst e;simpa using hf
   ·exact c p (by omega) I
theorem G0(f:Nat->Bool){n r:Nat}(M:r<=n)(h1:∀p,p<r->f p=false)(I:r<n->f r=true):D1 f 0 n=r:=by
 obtain⟨a,b,c,d⟩:=Bn f n 0;rcases Nat.lt_trichotomy (D1 f 0 n) r with h|h|h
 ·have:=h1 _ h;rw[d (by omega)]at this;cases this
 ·exact h
 ·have:=c r (by omega) h;rw[I (by omega)]at this;cases this
section
variable {C:Eu} {S:Self} {g:Gd} {ops:Array Oper} {pl:List (Nat×List Nat)} {F:Nat->Fr} {H:Nat->AB} {T:Nat->List (Nat×Nat)}
theorem Gc.at_(B:Gc C S g ops pl F H T)(D:Gf C.P ops pl){p:Nat}(h:p<pl.length):
  (A6 ops (F p) (Al ops pl p)=some false/\F (p+1)=put (F p) (Al ops pl p).dst (.tuple [])/\H (p+1)=H p/\T (p+1)=T p)\/
  (A6 ops (F p) (Al ops pl p)=some true/\∃v,Ap C S ⟨g.floor,EA (T p) (Gx pl p)++g.B4⟩ (H p) (F p) (Al ops pl p).op=some (v,H (p+1))/\F (p+1)=put (F p) (Al ops pl p).dst v/\
   T (p+1)=C0 C.P (H p) (F p) (Ae pl p) (Al ops pl p).op (T p)/\JG C ops (Gx pl p) (F (p+1)) (H (p+1))=true):=by
 have G:pl[p]?=some (Ae pl p,Gx pl p):=by simp[Ae,Gx,zo,List.getElem?_eq_getElem h]
 obtain⟨o,ho,hst⟩:=B.step p _ G;rw[D.lt p h]at ho;injection ho with ho;subst ho;exact hst
theorem Gc.len(B:Gc C S g ops pl F H T)(D:Gf C.P ops pl):∀p,p<=pl.length->(F p).length=(F 0).length
 |0,_=>rfl
 |p+1,h=>by
  rw[<-Gc.len B D p (by omega)];rcases B.at_ D (p:=p) (by omega)with⟨_,Y,_⟩|⟨_,v,_,Y,_⟩<;>rw[Y]<;>simp
theorem Jq(fr:Fr){d:Option Tmp}{t:Nat}(v:AA)(h:d≠some t):nth (put fr d v) t=nth fr t:=by
 cases d with
 |none=>rfl
 |some d=>
  simp only[put];rw[Ey,zh (by rintro⟨rfl,_⟩;exact h rfl)]
theorem Gc.slot(B:Gc C S g ops pl F H T)(D:Gf C.P ops pl){t p:Nat}:∀q,p<=q->q<=pl.length->(∀x,p<=x->x<q->(Al ops pl x).dst≠some t)->nth (F q) t=nth (F p) t
 |0,h1,_,_=>by rw[show p=0 by omega]
 | q+1,h1,I,Q=>by
  by_cases e:p=q+1
  ·rw[e]
  ·rw[<-Gc.slot B D q (by omega) (by omega) (λx a b=>Q x a (by omega))];have hne:=Q q (by omega) (by omega);rcases B.at_ D (p:=q) (by omega)with⟨_,Y,_⟩|⟨_,v,_,Y,_⟩<;>rw[Y,Jq _ _ hne]
theorem Gc.keeps(B:Gc C S g ops pl F H T)(D:Gf C.P ops pl)(W:Ir C.P C.B6 S){p:Nat}(h:p<pl.length):Af ⟨g.floor,EA (T p) (Gx pl p)++g.B4⟩ (H p) (H (p+1)):=by
 rcases B.at_ D h with⟨_,_,X,_⟩|⟨_,v,E,_,_⟩
 ·rw[X];exact Af.refl _ _
 ·exact Fw W E
theorem Gc.size(B:Gc C S g ops pl F H T)(D:Gf C.P ops pl)(W:Ir C.P C.B6 S){p:Nat}:∀q,p<=q->q<=pl.length->(H p).size<=(H q).size
 |0,h1,_=>by rw[show p=0 by omega];exact zr _
 |q+1,h1,I=>by
  by_cases e:p=q+1
  ·rw[e];exact zr _
  ·exact zM (Gc.size B D W q (by omega) (by omega)) (B.keeps D W (p:=q) (by omega)).1
theorem LO{g:Gd}{t:List (Nat×Nat)}{U:List Nat}{i id:Nat}(h1:(i,id)∈t)(I:U.any (Nat.beq i)=true):(⟨g.floor,EA t U++g.B4⟩:Gd).may id=false:=by
 have:(EA t U++g.B4).any (Nat.beq id)=true:=by
  refine y7.2 ⟨id,zm.2 (.inl (qr.2 ⟨(i,id),h1,?_⟩)),yX id⟩;simp[I]
 simp[Gd.may,this]
theorem K1{g:Gd}{l:List Nat}(id:Nat)(h:g.may id=false):(⟨g.floor,l++g.B4⟩:Gd).may id=false:=by
 simp only[Gd.may,yQ,yB]at h⊢;rcases h with h|h
 ·exact .inl h
 ·right;simp[qG,h]
theorem Gc.told(B:Gc C S g ops pl F H T)(D:Gf C.P ops pl){p:Nat}{x:Nat×Nat}(G:x∈T p):∀q,p<=q->q<=pl.length->x∈T q
 |0,h1,_=>by rw[show 0=p by omega];exact G
 | q +1,h1,I=>by
  by_cases e:p=q+1
  ·rw[<-e];exact G
  ·have ih:=Gc.told B D G q (by omega) (by omega);rcases B.at_ D (p:=q) (by omega)with⟨_,_,_,hT⟩|⟨_,v,_,_,hT,_⟩
   ·rw[hT];exact ih
   ·rw[hT];unfold C0;split
    ·split
     ·exact ym _ ih
     ·exact ih
    ·exact ym _ ih
    ·exact ih
theorem Gc.same(B:Gc C S g ops pl F H T)(D:Gf C.P ops pl)(W:Ir C.P C.B6 S){p i id:Nat}(G:(i,id)∈T p)(hid:id<(H p).size):
  ∀q,p<=q->q<=pl.length->(∀x,p<=x->x<q->AX C.P (Al ops pl x).op=3->(Gx pl x).any (Nat.beq i)=true)->(H q).get id=(H p).get id
 |0,h1,_,_=>by rw[show p=0 by omega]
 | q + 1,h1,I,Q=>by
  by_cases e:p=q+1
  ·rw[e]
  ·rw [<-Gc.same B D W G hid q (by omega) (by omega) (λx a b=>Q x a (by omega))];have K:id<(H q).size:=zQ hid (B.size D W q (by omega) (by omega));by_cases hc:AX C.P (Al ops pl q).op=3
   ·exact(B.keeps D W (p:=q) (by omega)).2 id K (LO (B.told D G q (by omega) (by omega)) (Q q (by omega) (by omega) hc))
   ·rcases B.at_ D (p:=q) (by omega)with⟨_,_,X,_⟩|⟨_,v,E,_,_⟩
    ·rw[X]
    ·rw[Dy hc]at E;unfold Fp at E;split at E
     ·simp only[zg,zb]at E;obtain⟨_,_,_,e⟩:=E;rw[<-e]
     ·split at E
      ·simp only[zg,zb]at E;obtain⟨_,_,_,e⟩:=E;rw[<-e]
      ·split at E
       ·simp only[zg,zb]at E;obtain⟨_,_,_,e⟩:=E;rw[<-e]
       ·cases E
     ·simp only[zg,zb]at E;obtain⟨_,_,_,e⟩:=E;rw[<-e];exact AB.Bp _ _ K
     ·rename_i h0 h1 I;exfalso;have:∀op,AX C.P op=0\/AX C.P op=1\/AX C.P op=2\/AX C.P op=3:=by
       intro op;unfold AX
       repeat' split
       all_goals simp
      rcases this (Al ops pl q).op with h|h|h|h
      ·exact h0 h
      ·exact h1 h
      ·exact I h
      ·exact hc h
theorem Sk{v x:AA}(h:NA v x=true):v=x:=by
 unfold NA at h;split at h
 ·simp only[zf]at h;rw[zD h.1,zD h.2]
 ·simp only[zf,zq]at h;rw[h.1,h.2]
 ·simp only[z3]at h;rw[h]
 ·simp only[zq]at h;rw[h]
 ·rfl
 ·cases h
theorem Gc.reads(B:Gc C S g ops pl F H T)(D:Gf C.P ops pl)(W:Ir C.P C.B6 S){p id:Nat}{ob:Ay}{x:AA}(hpn:p<pl.length)(hw:A6 ops (F p) (Al ops pl p)=some true)
  (ht:B1 (F p) (Al ops pl p).op=some id) (hg:(H (p+1)).get id=some ob) (G:Gh C.P C.B6 (F p) (some ob) (Al ops pl p).op=some x) (Y:F (p+1)=put (F p) (Al ops pl p).dst x) (hmem:(Ae pl p,id)∈T (p+1)):
  ∀q,p+1<=q->q<=pl.length->(∀y,p<y->y<q->AX C.P (Al ops pl y).op=3->(Gx pl y).any (Nat.beq (Ae pl p))=true\/((Gx pl y).any (Nat.beq (Ae pl p+10000))=true/\LN ops (closure ops.toList []) (Ae pl p)=true))->
   ∃ob',(H q).get id=some ob'/\Gh C.P C.B6 (F p) (some ob') (Al ops pl p).op=some x
 |0,h1,_,_=>by omega
 | q + 1, h1,I,Q=>by
  by_cases e:p=q
  ·subst e;exact⟨ob,hg,G⟩
  ·obtain ⟨ob',g1,g2⟩:=Gc.reads B D W hpn hw ht hg G Y hmem q (by omega) (by omega) (λy a b=>Q y a (by omega));have K:=(H q).Ar g1;have old:(H (q+1)).get id=(H q).get id->∃ob',(H (q+1)).get id=some ob'/\Gh C.P C.B6 (F p) (some ob') (Al ops pl p).op=some x:=λe=>⟨ob',by rw[e];exact g1,g2⟩;by_cases hc:AX C.P (Al ops pl q).op=3
   ·rcases Q q (by omega) (by omega) hc with hu|⟨hu,R⟩
    ·exact old ((B.keeps D W (p:=q) (by omega)).2 id K (LO (B.told D hmem q (by omega) (by omega)) hu))
    ·rcases B.at_ D (p:=q) (by omega)with⟨_,_,X,_⟩|⟨_,v,E,hFq,_,hre⟩
     ·rw[X];exact⟨ob',g1,g2⟩
     ·unfold JG at hre;obtain⟨u,hum,hue⟩:=y7.1 hu;have hue:=zD hue;have L:=zC.1 hre u hum;have hbl:Nat.blt u 10000=false:=by rw[<-qz,yc];omega
      rw[hbl,qp,show u - 10000=Ae pl p by omega]at L;unfold MP at L;unfold LN at R;rw[D.lt p hpn]at L R;simp only at L R;have noW:∀y,p<y->y<=q->∀t,(Al ops pl y).dst=some t->(Al ops pl p).dst≠some t/\t∉(Al ops pl p).looksAt ops:=by
       intro y a b t N;have hyn:y<pl.length:=by omega
       have hly:=D.lt y hyn;have h6:=zC.1 R (Ae pl y) (by simpa using(Array.getElem?_eq_some_iff.1 hly).1);rw[hly]at h6;simp only[N,zf,zL,zx]at h6;refine⟨λe=>?_,λhm=>?_⟩
       ·rcases h6.1 with h|h
        ·exact D.ne p y a hyn (zD h).symm
        ·rw[e]at h;simp at h
       ·rcases h6.2 with h|h
        ·have:((Al ops pl p).looksAt ops).contains t=true:=by simpa using hm
         rw[this]at h;cases h
        ·rw[D.Qp p y a hyn]at h;exact absurd h.2 (by simp)
      have sameL:∀t∈(Al ops pl p).looksAt ops,(Al ops pl p).dst≠some t->nth (F (q+1)) t=nth (F p) t:=by
       intro t hm N;refine B.slot D (q+1) (by omega) (by omega) λy a b hy=>?_;by_cases e:y=p
       ·subst e;exact N hy
       ·exact(noW y (by omega) (by omega) t hy).2 hm
      have hself:∀t∈(Al ops pl p).looksAt ops,(Al ops pl p).dst≠some t:=by
       intro t hm N;have hlp:=D.lt p hpn;have h6:=zC.1 R (Ae pl p) (by simpa using(Array.getElem?_eq_some_iff.1 hlp).1);rw[hlp]at h6;simp only[N,zf,zL,zx]at h6;rcases h6.2 with h|h
       ·have:((Al ops pl p).looksAt ops).contains t=true:=by simpa using hm
        rw[this]at h;cases h
       ·simp only[yX]at h;exact absurd h.1 (by simp)
      have Js:∀t∈(Al ops pl p).looksAt ops,nth (F (q+1)) t=nth (F p) t:=λt hm=>sameL t hm (hself t hm);rw[F8 Js,hw]at L;simp only at L;have hso:=KX Js;rw[Gb hso,ht]at L;split at L
      ·rename_i d id' N V;injection V with V;subst V;simp only[zf]at L;obtain⟨Z,L⟩:=L;split at L
       ·rename_i ob2 hg2;split at L
        ·rename_i v2 hv2;refine⟨ob2,hg2,?_⟩;rw[He hso]at hv2;have e1:=Sk L;have e2:nth (F (q+1)) d=nth (F (p+1)) d:=B.slot D (q+1) (by omega) (by omega) λy a b hy=>(noW y (by omega) (by omega) d hy).1 N;have e3:nth (F (p+1)) d=x:=by
          rw[Y,N];show nth ((F p).set d x) d=x;have hl1:=B.len D (q+1) (by omega);have hl2:=B.len D p (by omega);rw[yc]at Z;rw[Ey,zk ⟨rfl,by omega⟩]
         rw[hv2,e1,e2,e3]
        ·cases L
       ·cases L
      ·cases L
   ·refine old ?_;rcases B.at_ D (p:=q) (by omega)with⟨_,_,X,_⟩|⟨_,v,E,_,_⟩
    ·rw[X]
    ·rw[Dy hc]at E;unfold Fp at E;split at E
     ·simp only[zg,zb]at E;obtain⟨_,_,_,e⟩:=E;rw[<-e]
     ·split at E
      ·simp only[zg,zb]at E;obtain⟨_,_,_,e⟩:=E;rw[<-e]
      ·split at E
       ·simp only[zg,zb]at E;obtain⟨_,_,_,e⟩:=E;rw[<-e]
       ·cases E
     ·simp only[zg,zb]at E;obtain⟨_,_,_,e⟩:=E;rw[<-e];exact AB.Bp _ _ K
     ·rename_i h0 h1 I;exfalso;have:∀op,AX C.P op=0\/AX C.P op=1\/AX C.P op=2\/AX C.P op=3:=by
       intro op;unfold AX
       repeat' split
       all_goals simp
      rcases this (Al ops pl q).op with h|h|h|h
      ·exact h0 h
      ·exact h1 h
      ·exact I h
      ·exact hc h
theorem Gc.Jn(B:Gc C S g ops pl F H T)(D:Gf C.P ops pl){w0:World}{m:Aj}{w:World}{p:Nat}(r:Rel C.P w0 m (H p) w):
  ∀q,p<=q->q<=pl.length->(∀x,p<=x->x<q->AX C.P (Al ops pl x).op≠3)->Rel C.P w0 m (H q) w
 |0,h1,_,_=>by rw[show 0=p by omega];exact r
 | q +1,h1,I,Q=>by
  by_cases e:p=q+1
  ·rw[<-e];exact r
  ·have ih:=Gc.Jn B D r q (by omega) (by omega) (λx a b=>Q x a (by omega));have hc:=Q q (by omega) (by omega);rcases B.at_ D (p:=q) (by omega)with⟨_,_,X,_⟩|⟨_,v,E,_,_⟩
   ·rw[X];exact ih
   ·rw[Dy hc]at E;unfold Fp at E;split at E
    ·simp only[zg,zb]at E;obtain⟨_,_,_,e⟩:=E;rw[<-e];exact ih
    ·split at E
     ·simp only[zg,zb]at E;obtain⟨_,_,_,e⟩:=E;rw[<-e];exact ih
     ·split at E
      ·simp only[zg,zb]at E;obtain⟨_,_,_,e⟩:=E;rw[<-e];exact ih
      ·cases E
    ·simp only[zg,zb]at E;obtain⟨_,_,_,e⟩:=E;rw[<-e];exact ih.ghost _
    ·rename_i h0 h1 I;exfalso;have:∀op,AX C.P op=0\/AX C.P op=1\/AX C.P op=2\/AX C.P op=3:=by
      intro op;unfold AX
      repeat' split
      all_goals simp
     rcases this (Al ops pl q).op with h|h|h|h
     ·exact h0 h
     ·exact h1 h
     ·exact I h
     ·exact hc h
end
end Go.Av
