/-
 A part.
-/
import Derived.Test.YthhonebaoidfgaaGreatDoorAvStep
set_option linter.unusedSimpArgs false
namespace Go.Av
open Go.RowKit
def Vc(acc:List Nat)(o:Oper):Nat:=o.after.toList.foldl (λs e=>if Region.binds .any e then s ||| 2^e.on ||| acc.getD e.on 0 else s) 0
def closure:List Oper->List Nat->List Nat
 |[],acc=>acc
 |o::os,acc=>closure os (acc++[Vc acc o])
theorem SM(acc:List Nat)(j:Nat):∀(l:List Edge) (s:Nat),(l.foldl (λs e=>if Region.binds .any e then s ||| 2^e.on ||| acc.getD e.on 0 else s) s).testBit j=true↔
  s.testBit j=true\/∃e∈l,Region.binds .any e=true/\(j=e.on\/(acc.getD e.on 0).testBit j=true)
 |[],s=>by simp
 | e::l,s=>by
  rw[qd,SM acc j l];by_cases N:Region.binds .any e=true
  ·simp only[N,if_true,Nat.testBit_or,yp,Nat.testBit_two_pow,zy,zF,exists_eq_or_imp,qs];constructor
   ·rintro((((h|h)|h))|h)
    ·exact .inl h
    ·exact .inr (.inl (.inl h.symm))
    ·exact .inr (.inl (.inr h))
    ·exact .inr (.inr h)
   ·rintro(h|(h|h)|h)
    ·exact .inl (.inl (.inl h))
    ·exact .inl (.inl (.inr h.symm))
    ·exact .inl (.inr h)
    ·exact .inr h
  ·simp only[N,yM,if_false,zF,exists_eq_or_imp,false_and,false_or]
theorem K6:∀(l:List Oper) (acc:List Nat) (i:Nat),i<acc.length->(closure l acc)[i]?=acc[i]?
 |[],acc,i,_=>rfl
 |o::l,acc,i,h=>by rw[closure,K6 l _ i (by simp;omega),List.getElem?_append_left h]
theorem MD:∀(l:List Oper) (acc:List Nat) (k:Nat) (o:Oper) (j:Nat),l[k]?=some o->
  ((((closure l acc).getD (acc.length+k) 0).testBit j=true↔∃e∈o.after.toList,Region.binds .any e=true/\(j=e.on\/(e.on<acc.length+k/\((closure l acc).getD e.on 0).testBit j=true))))
 |[],acc,k,o,j,h=>by simp at h
 | o'::l,acc,0,o,j,h=>by
  simp only[List.getElem?_cons_zero,zb]at h;subst h;have e1:(closure (o'::l) acc).getD (acc.length+0) 0=Vc acc o':=by
   rw[zo,closure,K6 l _ _ (by simp),List.getElem?_append_right om];simp
  rw[e1,Vc,SM];simp only[Nat.zero_testBit,yM,false_or];constructor
  ·rintro⟨e,he,N,h|h⟩
   ·exact⟨e,he,N,.inl h⟩
   ·refine⟨e,he,N,.inr ?_⟩;by_cases X:e.on<acc.length
    ·refine⟨by omega,?_⟩;rw[zo,closure,K6 l _ _ (by simp;omega),List.getElem?_append_left X];simpa[zo]using h
    ·rw[zo,List.getElem?_eq_none om]at h;simp at h
  ·rintro⟨e,he,N,h|⟨X,h⟩⟩
   ·exact⟨e,he,N,.inl h⟩
   ·refine⟨e,he,N,.inr ?_⟩;rw[zo,closure,K6 l _ _ (by simp;omega),List.getElem?_append_left om]at h;simpa[zo]using h
 |o'::l,acc,k+1,o,j,h=>by
  have ih:=MD l (acc++[Vc acc o']) k o j (by simpa using h);simp only[zi,zG,zY]at ih;rw[show acc.length+(k+1)=acc.length+(0+1)+k by omega];exact ih
def dep(cl:List Nat)(i j:Nat):Bool:=(cl.getD j 0).testBit i
def Ph(ops:Array Oper)(cl:List Nat)(i:Nat):Bool:=
 match ops[i]? with
 | some o=>(List.range ops.size).all λj=>
   match ops[j]? with
   |some p=>
    match p.dst with
    |some t=>(Nat.beq j i|| !(o.dst==some t))&&(!(o.looksAt ops).contains t||(!Nat.beq j i&&dep cl j i))
    |none=>true
   |none=>true
 |none=>false
def P8(P:Program)(ops:Array Oper)(cl:List Nat)(x y:Nat×List Nat):Bool:=
  (x.1 !=y.1)&& !dep cl y.1 x.1&&
  (dep cl x.1 y.1||
    (match ops[x.1]?,ops[y.1]? with
     |some a,some b=>a.apart ops b&&(Bd P b.op==0||Bd P a.op==0||(Bd P a.op !=3&&(Bd P b.op !=3||y.2.any (Nat.beq x.1)||(Bd P a.op==1&&(y.2.any (Nat.beq (x.1+10000))&&Ph ops cl x.1)))))
     |_,_=>false))
def RZ(P:Program)(ops:Array Oper)(cl:List Nat):List (Nat×List Nat)->Bool
 |[]=>true
 |x::l=>l.all (λy=>P8 P ops cl x y)&&RZ P ops cl l
def OE:List Oper->Nat->Bool
 |[],_=>true
 |o::l,i=>o.after.toList.all (λe=> !Region.binds .any e||Nat.blt e.on i)&&OE l (i+1)
theorem O9:∀{l:List Oper} {i:Nat},OE l i=true->∀{k:Nat} {o:Oper} {e:Edge},l[k]?=some o->e∈o.after.toList->Region.binds .any e=true->e.on<i+k
 |[],_,_,k,o,e,hk,_,_=>by simp at hk
 | o'::l,i,h,k,o,e,hk,he,N=>by
  simp only[OE,zf]at h;cases k with
  |zero=>
   simp only[List.getElem?_cons_zero,zb]at hk;subst hk;have:=zr.1 h.1 e he;rw[N]at this;simp only[yg,yX,yH]at this;omega
  |succ k=>
   have:=O9 h.2 (k:=k) (by simpa using hk) he N;omega
def S7(P:Program)(ops:Array Oper)(pl:List (Nat×List Nat)):Bool:=
 let cl:=closure ops.toList []
 OE ops.toList 0&&pl.all (λx=>Nat.blt x.1 ops.size)&&(List.range ops.size).all (λi=>pl.any λx=>Nat.beq x.1 i)&&RZ P ops cl pl
theorem Rm{P:Program}{ops:Array Oper}{cl:List Nat}:∀{pl:List (Nat×List Nat)},RZ P ops cl pl=true->∀{p q:Nat} {x y:Nat×List Nat},p<q->pl[p]?=some x->pl[q]?=some y->P8 P ops cl x y=true
 |[],_,p,q,x,y,_,G,_=>by simp at G
 | z::l,h,p,q,x,y,I,G,hy=>by
  simp only[RZ,zf]at h;cases q with
  |zero=>omega
  | succ q=>
   have hy':l[q]?=some y:=by simpa using hy
   cases p with
   |zero=>
    simp only[List.getElem?_cons_zero,zb]at G;subst G;exact zr.1 h.1 y (zN hy')
   |succ p=>exact Rm h.2 (p:=p) (q:=q) om (by simpa using G) hy'
section
variable {C:Hv} {S:Self}
structure I3(C:Hv)(S:Self)(g:Gd)(ops:Array Oper)(pl:List (Nat×List Nat))(F:Nat->Fr)(H:Nat->AF)(T:Nat->List (Nat×Nat)):Prop where
  step:∀p x,pl[p]?=some x->∃o,ops[x.1]?=some o/\
    ((DN ops (F p) o=some false/\F (p+1)=put (F p) o.dst (.tuple [])/\H (p+1)=H p/\T (p+1)=T p)\/
     (DN ops (F p) o=some true/\∃v,Bv C S ⟨g.floor,Jt (T p) x.2++g.BW⟩ (H p) (F p) o.op=some (v,H (p+1))/\F (p+1)=put (F p) o.dst v/\T (p+1)=ID C.P (H p) (F p) x.1 o.op (T p)/\RE C ops x.2 (F (p+1)) (H (p+1))=true))
theorem Ns{g:Gd}{ops:Array Oper}:∀(pl:List (Nat×List Nat)) (t:List (Nat×Nat)) (fr:Fr) (h:AF) (fr':Fr) (h':AF),DH C S g ops pl t fr h=some (fr',h')->
    ∃F H T,I3 C S g ops pl F H T/\F 0=fr/\H 0=h/\T 0=t/\F pl.length=fr'/\H pl.length=h'
  | [],t,fr,h,fr',h',L=>by
    simp only[DH,zb,ze]at L;obtain⟨rfl,rfl⟩:=L;exact⟨λ_=>fr,λ_=>h,λ_=>t,⟨λp x G=>by simp at G⟩,rfl,rfl,rfl,rfl,rfl⟩
  | (i, U) ::pl,t,fr,h,fr',h',L=>by
    unfold DH at L;split at L
    · cases L
    · rename_i o ho
      have glue:∀(fr1:Fr) (h1:AF) (t1:List (Nat×Nat)),DH C S g ops pl t1 fr1 h1=some (fr',h')->
          ((DN ops fr o=some false/\fr1=put fr o.dst (.tuple [])/\h1=h/\t1=t)\/
           (DN ops fr o=some true/\∃v,Bv C S ⟨g.floor,Jt t U++g.BW⟩ h fr o.op=some (v,h1)/\fr1=put fr o.dst v/\t1=ID C.P h fr i o.op t/\RE C ops U fr1 h1=true))->
          ∃F H T,I3 C S g ops ((i,U)::pl) F H T/\F 0=fr/\H 0=h/\T 0=t/\F ((i,U)::pl).length=fr'/\H ((i,U)::pl).length=h':=by
        intro fr1 h1 t1 hrest hst;obtain⟨F,H,T,B,rfl,rfl,rfl,W,hH⟩:=Ns pl t1 fr1 h1 fr' h' hrest;refine⟨fun|0=>fr|p+1=>F p,fun|0=>h|p+1=>H p,fun|0=>t|p+1=>T p,⟨λp x G=>?_⟩,rfl,rfl,rfl,by simpa using W,by simpa using hH⟩;cases p with
        | zero=>
          simp only[List.getElem?_cons_zero,zb]at G;subst G;exact⟨o,ho,hst⟩
        |succ p=>exact B.step p x (by simpa using G)
      split at L
      · rename_i hw
        split at L
        · rename_i v h1 E
          cases M:RE C ops U (put fr o.dst v) h1 with
          |false=>rw[M]at L;cases L
          | true=>
            rw[M]at L;exact glue _ _ _ L (.inr ⟨hw,v,E,rfl,rfl,M⟩)
        · cases L
      · rename_i hw
        exact glue _ _ _ L (.inl ⟨hw,rfl,rfl,rfl⟩)
      · cases L
end
def B8(pl:List (Nat×List Nat))(p:Nat):Nat:=(pl.getD p (0,[])).1
def No(pl:List (Nat×List Nat))(p:Nat):List Nat:=(pl.getD p (0,[])).2
def CK(ops:Array Oper)(pl:List (Nat×List Nat))(p:Nat):Oper:=ops.getD (B8 pl p) default
structure Oq(P:Program)(ops:Array Oper)(pl:List (Nat×List Nat)):Prop where
 lt:∀p,p<pl.length->ops[B8 pl p]?=some (CK ops pl p)
 lG:∀i,i<ops.size->∃p,p<pl.length/\B8 pl p=i
 lV:∀p,p<pl.length->∀e∈(CK ops pl p).after.toList,Region.binds .any e=true->e.on<B8 pl p
 ne:∀p q,p<q->q<pl.length->B8 pl p≠B8 pl q
 gV:∀p q,p<q->q<pl.length->dep (closure ops.toList []) (B8 pl q) (B8 pl p)=false
 pair:∀p q,p<q->q<pl.length->dep (closure ops.toList []) (B8 pl p) (B8 pl q)=true\/
  ((CK ops pl p).apart ops (CK ops pl q)=true/\(Bd P (CK ops pl q).op=0\/Bd P (CK ops pl p).op=0\/
   (Bd P (CK ops pl p).op≠3/\(Bd P (CK ops pl q).op≠3\/(No pl q).any (Nat.beq (B8 pl p))=true\/
    (Bd P (CK ops pl p).op=1/\(No pl q).any (Nat.beq (B8 pl p+10000))=true/\Ph ops (closure ops.toList []) (B8 pl p)=true)))))
theorem Yh{P:Program}{ops:Array Oper}{pl:List (Nat×List Nat)}(h:S7 P ops pl=true):Oq P ops pl:=by
 simp only[S7,zf]at h;obtain⟨⟨⟨h0,h1⟩,h2⟩,O⟩:=h;have get:∀p,p<pl.length->pl[p]?=some (B8 pl p,No pl p):=λp D=>by
  simp[B8,No,zo,List.getElem?_eq_getElem D]
 have lt:∀p,p<pl.length->B8 pl p<ops.size:=λp D=>by
  have:=zr.1 h1 _ (zN (get p D));rw[yH]at this;exact this
 have lt':∀p,p<pl.length->ops[B8 pl p]?=some (CK ops pl p):=λp D=>by
  have:=lt p D;simp[CK,zn,this]
 have pk:∀p q,p<q->q<pl.length->P8 P ops (closure ops.toList []) (B8 pl p,No pl p) (B8 pl q,No pl q)=true:=λp q I Y=>
  Rm O I (get p om) (get q Y)
 refine⟨lt',λi hi=>?_,λp D e he N=>?_,λp q I Y=>?_,λp q I Y=>?_,λp q I Y=>?_⟩
 ·have:=zr.1 h2 i (by simpa using hi);obtain⟨x,G,hxi⟩:=qm.1 this;obtain⟨p,D,rfl⟩:=qz.1 G;refine⟨p,D,?_⟩;rw[<-zt hxi];simp[B8,zo,List.getElem?_eq_getElem D]
 ·have:=O9 h0 (k:=B8 pl p) (by simpa using lt' p D) he N;omega
 ·have:=pk p q I Y;simp only[P8,zf,xi]at this;exact this.1.1
 ·have:=pk p q I Y;simp only[P8,zf,zH]at this;exact this.1.2
 ·have:=pk p q I Y;simp only[P8,zf,yp]at this;rcases this.2 with hd|hd
  ·exact .inl hd
  ·right;rw[lt' p om,lt' q Y]at hd;simp only[zf,yp,yN,xi]at hd;refine⟨hd.1,?_⟩;rcases hd.2 with(a|a)|⟨a,b⟩
   ·exact .inl a
   ·exact .inr (.inl a)
   ·refine .inr (.inr ⟨a,?_⟩);rcases b with(b|b)|⟨b,c,d⟩
    ·exact .inl b
    ·exact .inr (.inl b)
    ·exact .inr (.inr ⟨b,c,d⟩)
def J4(f:Nat->Bool):Nat->Nat->Nat
 |s,0=>s
 |s,k+1=>if f s=true then s else J4 f (s+1) k
theorem Ft(f:Nat->Bool):∀(k s:Nat),s<=J4 f s k/\J4 f s k<=s+k/\(∀p,s<=p->p<J4 f s k->f p=false)/\(J4 f s k<s+k->f (J4 f s k)=true)
 |0,s=>⟨zw _,zw _,λp h1 h2=>by simp[J4]at h2;omega,λh=>by simp[J4]at h⟩
 | k+1,s=>by
  unfold J4;by_cases hf:f s=true
  ·rw[zl hf];exact⟨zw _,by omega,λp h1 h2=>by omega,λ_=>hf⟩
  ·rw[zj hf];obtain⟨a,b,c,d⟩:=Ft f k (s+1);refine⟨by omega,by omega,λp h1 h2=>?_,λh=>d om⟩;by_cases e:p=s
   ·subst e;simpa using hf
   ·exact c p om h2
theorem PU(f:Nat->Bool){n r:Nat}(L:r<=n)(h1:∀p,p<r->f p=false)(h2:r<n->f r=true):J4 f 0 n=r:=by
 obtain⟨a,b,c,d⟩:=Ft f n 0;rcases xj (J4 f 0 n) r with h|h|h
 ·have:=h1 _ h;rw[d om]at this;cases this
 ·exact h
 ·have:=c r om h;rw[h2 om]at this;cases this
section
variable {C:Hv} {S:Self} {g:Gd} {ops:Array Oper} {pl:List (Nat×List Nat)} {F:Nat->Fr} {H:Nat->AF} {T:Nat->List (Nat×Nat)}
theorem I3.at_(B:I3 C S g ops pl F H T)(D:Oq C.P ops pl){p:Nat}(h:p<pl.length):
  (DN ops (F p) (CK ops pl p)=some false/\F (p+1)=put (F p) (CK ops pl p).dst (.tuple [])/\H (p+1)=H p/\T (p+1)=T p)\/
  (DN ops (F p) (CK ops pl p)=some true/\∃v,Bv C S ⟨g.floor,Jt (T p) (No pl p)++g.BW⟩ (H p) (F p) (CK ops pl p).op=some (v,H (p+1))/\F (p+1)=put (F p) (CK ops pl p).dst v/\
   T (p+1)=ID C.P (H p) (F p) (B8 pl p) (CK ops pl p).op (T p)/\RE C ops (No pl p) (F (p+1)) (H (p+1))=true):=by
 have G:pl[p]?=some (B8 pl p,No pl p):=by simp[B8,No,zo,List.getElem?_eq_getElem h]
 obtain⟨o,ho,hst⟩:=B.step p _ G;rw[D.lt p h]at ho;injection ho with ho;subst ho;exact hst
theorem I3.len(B:I3 C S g ops pl F H T)(D:Oq C.P ops pl):∀p,p<=pl.length->(F p).length=(F 0).length
 |0,_=>rfl
 |p+1,h=>by
  rw[<-I3.len B D p om];rcases B.at_ D (p:=p) om with⟨_,W,_⟩|⟨_,v,_,W,_⟩<;>rw[W]<;>simp
theorem R8(fr:Fr){d:Option Tmp}{t:Nat}(v:AD)(h:d≠some t):nth (put fr d v) t=nth fr t:=by
 cases d with
 |none=>rfl
 |some d=>
  simp only[put];rw[G4,zj (by rintro⟨rfl,_⟩;exact h rfl)]
theorem I3.slot(B:I3 C S g ops pl F H T)(D:Oq C.P ops pl){t p:Nat}:∀q,p<=q->q<=pl.length->(∀x,p<=x->x<q->(CK ops pl x).dst≠some t)->nth (F q) t=nth (F p) t
 |0,h1,_,_=>by rw[show p=0 by omega]
 | q+1,h1,h2,O=>by
  by_cases e:p=q+1
  ·rw[e]
  ·rw[<-I3.slot B D q om om (λx a b=>O x a om)];have hne:=O q om om;rcases B.at_ D (p:=q) om with⟨_,W,_⟩|⟨_,v,_,W,_⟩<;>rw[W,R8 _ _ hne]
theorem I3.keeps(B:I3 C S g ops pl F H T)(D:Oq C.P ops pl)(V:HW C.P C.DC S){p:Nat}(h:p<pl.length):Bh ⟨g.floor,Jt (T p) (No pl p)++g.BW⟩ (H p) (H (p+1)):=by
 rcases B.at_ D h with⟨_,_,hH,_⟩|⟨_,v,E,_,_⟩
 ·rw[hH];exact Bh.refl _ _
 ·exact LI V E
theorem I3.size(B:I3 C S g ops pl F H T)(D:Oq C.P ops pl)(V:HW C.P C.DC S){p:Nat}:∀q,p<=q->q<=pl.length->(H p).size<=(H q).size
 |0,h1,_=>by rw[show p=0 by omega];exact zw _
 |q+1,h1,h2=>by
  by_cases e:p=q+1
  ·rw[e];exact zw _
  ·exact z8 (I3.size B D V q om om) (B.keeps D V (p:=q) om).1
theorem Vh{g:Gd}{t:List (Nat×Nat)}{U:List Nat}{i id:Nat}(h1:(i,id)∈t)(h2:U.any (Nat.beq i)=true):(⟨g.floor,Jt t U++g.BW⟩:Gd).may id=false:=by
 have:(Jt t U++g.BW).any (Nat.beq id)=true:=by
  refine qm.2 ⟨id,zu.2 (.inl (qF.2 ⟨(i,id),h1,?_⟩)),yl id⟩;simp[h2]
 simp[Gd.may,this]
theorem Xb{g:Gd}{l:List Nat}(id:Nat)(h:g.may id=false):(⟨g.floor,l++g.BW⟩:Gd).may id=false:=by
 simp only[Gd.may,yv,yP]at h⊢;rcases h with h|h
 ·exact .inl h
 ·right;simp[xv,h]
theorem I3.told(B:I3 C S g ops pl F H T)(D:Oq C.P ops pl){p:Nat}{x:Nat×Nat}(G:x∈T p):∀q,p<=q->q<=pl.length->x∈T q
 |0,h1,_=>by rw[show 0=p by omega];exact G
 | q +1,h1,h2=>by
  by_cases e:p=q+1
  ·rw[<-e];exact G
  ·have ih:=I3.told B D G q om om;rcases B.at_ D (p:=q) om with⟨_,_,_,hT⟩|⟨_,v,_,_,hT,_⟩
   ·rw[hT];exact ih
   ·rw[hT];unfold ID;split
    ·split
     ·exact yj _ ih
     ·exact ih
    ·exact yj _ ih
    ·exact ih
theorem I3.same(B:I3 C S g ops pl F H T)(D:Oq C.P ops pl)(V:HW C.P C.DC S){p i id:Nat}(G:(i,id)∈T p)(hid:id<(H p).size):
  ∀q,p<=q->q<=pl.length->(∀x,p<=x->x<q->Bd C.P (CK ops pl x).op=3->(No pl x).any (Nat.beq i)=true)->(H q).get id=(H p).get id
 |0,h1,_,_=>by rw[show p=0 by omega]
 | q + 1,h1,h2,O=>by
  by_cases e:p=q+1
  ·rw[e]
  ·rw [<-I3.same B D V G hid q om om (λx a b=>O x a om)];have J:id<(H q).size:=zX hid (B.size D V q om om);by_cases hc:Bd C.P (CK ops pl q).op=3
   ·exact(B.keeps D V (p:=q) om).2 id J (Vh (B.told D G q om om) (O q om om hc))
   ·rcases B.at_ D (p:=q) om with⟨_,_,hH,_⟩|⟨_,v,E,_,_⟩
    ·rw[hH]
    ·rw[JG hc]at E;unfold Jl at E;split at E
     ·simp only[zk,ze]at E;obtain⟨_,_,_,e⟩:=E;rw[<-e]
     ·split at E
      ·simp only[zk,ze]at E;obtain⟨_,_,_,e⟩:=E;rw[<-e]
      ·split at E
       ·simp only[zk,ze]at E;obtain⟨_,_,_,e⟩:=E;rw[<-e]
       ·cases E
     ·simp only[zk,ze]at E;obtain⟨_,_,_,e⟩:=E;rw[<-e];exact AF.Ci _ _ J
     ·rename_i h0 h1 h2;exfalso;have:∀op,Bd C.P op=0\/Bd C.P op=1\/Bd C.P op=2\/Bd C.P op=3:=by
       intro op;unfold Bd
       repeat' split
       all_goals simp
      rcases this (CK ops pl q).op with h|h|h|h
      ·exact h0 h
      ·exact h1 h
      ·exact h2 h
      ·exact hc h
theorem aR{v x:AD}(h:de v x=true):v=x:=by
 unfold de at h;split at h
 ·simp only[zf]at h;rw[zt h.1,zt h.2]
 ·simp only[zf,zy]at h;rw[h.1,h.2]
 ·simp only[yN]at h;rw[h]
 ·simp only[zy]at h;rw[h]
 ·rfl
 ·cases h
theorem I3.reads(B:I3 C S g ops pl F H T)(D:Oq C.P ops pl)(V:HW C.P C.DC S){p id:Nat}{ob:Cs}{x:AD}(hpn:p<pl.length)(hw:DN ops (F p) (CK ops pl p)=some true)
  (ht:EN (F p) (CK ops pl p).op=some id) (hg:(H (p+1)).get id=some ob) (G:Mh C.P C.DC (F p) (some ob) (CK ops pl p).op=some x) (W:F (p+1)=put (F p) (CK ops pl p).dst x) (Z:(B8 pl p,id)∈T (p+1)):
  ∀q,p+1<=q->q<=pl.length->(∀y,p<y->y<q->Bd C.P (CK ops pl y).op=3->(No pl y).any (Nat.beq (B8 pl p))=true\/((No pl y).any (Nat.beq (B8 pl p+10000))=true/\Ph ops (closure ops.toList []) (B8 pl p)=true))->
   ∃ob',(H q).get id=some ob'/\Mh C.P C.DC (F p) (some ob') (CK ops pl p).op=some x
 |0,h1,_,_=>by omega
 | q + 1, h1,h2,O=>by
  by_cases e:p=q
  ·subst e;exact⟨ob,hg,G⟩
  ·obtain ⟨ob',g1,g2⟩:=I3.reads B D V hpn hw ht hg G W Z q om om (λy a b=>O y a om);have J:=(H q).CA g1;have JY:(H (q+1)).get id=(H q).get id->∃ob',(H (q+1)).get id=some ob'/\Mh C.P C.DC (F p) (some ob') (CK ops pl p).op=some x:=λe=>⟨ob',by rw[e];exact g1,g2⟩;by_cases hc:Bd C.P (CK ops pl q).op=3
   ·rcases O q om om hc with hu|⟨hu,Q⟩
    ·exact JY ((B.keeps D V (p:=q) om).2 id J (Vh (B.told D Z q om om) hu))
    ·rcases B.at_ D (p:=q) om with⟨_,_,hH,_⟩|⟨_,v,E,hFq,_,M⟩
     ·rw[hH];exact⟨ob',g1,g2⟩
     ·unfold RE at M;obtain⟨u,hum,hue⟩:=qm.1 hu;have hue:=zt hue;have K:=zr.1 M u hum;have hbl:Nat.blt u 10000=false:=by rw[<-yF,yH];omega
      rw[hbl,yX,show u - 10000=B8 pl p by omega]at K;unfold gk at K;unfold Ph at Q;rw[D.lt p hpn]at K Q;simp only at K Q;have noW:∀y,p<y->y<=q->∀t,(CK ops pl y).dst=some t->(CK ops pl p).dst≠some t/\t∉(CK ops pl p).looksAt ops:=by
       intro y a b t hd;have hyn:y<pl.length:=by omega
       have hly:=D.lt y hyn;have h6:=zr.1 Q (B8 pl y) (by simpa using(Array.getElem?_eq_some_iff.1 hly).1);rw[hly]at h6;simp only[hd,zf,yp,zH]at h6;refine⟨λe=>?_,λhm=>?_⟩
       ·rcases h6.1 with h|h
        ·exact D.ne p y a hyn (zt h).symm
        ·rw[e]at h;simp at h
       ·rcases h6.2 with h|h
        ·have:((CK ops pl p).looksAt ops).contains t=true:=by simpa using hm
         rw[this]at h;cases h
        ·rw[D.gV p y a hyn]at h;exact absurd h.2 (by simp)
      have sameL:∀t∈(CK ops pl p).looksAt ops,(CK ops pl p).dst≠some t->nth (F (q+1)) t=nth (F p) t:=by
       intro t hm hd;refine B.slot D (q+1) om om λy a b hy=>?_;by_cases e:y=p
       ·subst e;exact hd hy
       ·exact(noW y om om t hy).2 hm
      have hself:∀t∈(CK ops pl p).looksAt ops,(CK ops pl p).dst≠some t:=by
       intro t hm hd;have hlp:=D.lt p hpn;have h6:=zr.1 Q (B8 pl p) (by simpa using(Array.getElem?_eq_some_iff.1 hlp).1);rw[hlp]at h6;simp only[hd,zf,yp,zH]at h6;rcases h6.2 with h|h
       ·have:((CK ops pl p).looksAt ops).contains t=true:=by simpa using hm
        rw[this]at h;cases h
       ·simp only[yl]at h;exact absurd h.1 (by simp)
      have Nn:∀t∈(CK ops pl p).looksAt ops,nth (F (q+1)) t=nth (F p) t:=λt hm=>sameL t hm (hself t hm);rw[MJ Nn,hw]at K;simp only at K;have hso:=Ql Nn;rw[M8 hso,ht]at K;split at K
      ·rename_i d id' hd R;injection R with R;subst R;simp only[zf]at K;obtain⟨X,K⟩:=K;split at K
       ·rename_i ob2 hg2;split at K
        ·rename_i v2 hv2;refine⟨ob2,hg2,?_⟩;rw[PQ hso]at hv2;have e1:=aR K;have e2:nth (F (q+1)) d=nth (F (p+1)) d:=B.slot D (q+1) om om λy a b hy=>(noW y om om d hy).1 hd;have e3:nth (F (p+1)) d=x:=by
          rw[W,hd];show nth ((F p).set d x) d=x;have hl1:=B.len D (q+1) om;have hl2:=B.len D p om;rw[yH]at X;rw[G4,zl ⟨rfl,by omega⟩]
         rw[hv2,e1,e2,e3]
        ·cases K
       ·cases K
      ·cases K
   ·refine JY ?_;rcases B.at_ D (p:=q) om with⟨_,_,hH,_⟩|⟨_,v,E,_,_⟩
    ·rw[hH]
    ·rw[JG hc]at E;unfold Jl at E;split at E
     ·simp only[zk,ze]at E;obtain⟨_,_,_,e⟩:=E;rw[<-e]
     ·split at E
      ·simp only[zk,ze]at E;obtain⟨_,_,_,e⟩:=E;rw[<-e]
      ·split at E
       ·simp only[zk,ze]at E;obtain⟨_,_,_,e⟩:=E;rw[<-e]
       ·cases E
     ·simp only[zk,ze]at E;obtain⟨_,_,_,e⟩:=E;rw[<-e];exact AF.Ci _ _ J
     ·rename_i h0 h1 h2;exfalso;have:∀op,Bd C.P op=0\/Bd C.P op=1\/Bd C.P op=2\/Bd C.P op=3:=by
       intro op;unfold Bd
       repeat' split
       all_goals simp
      rcases this (CK ops pl q).op with h|h|h|h
      ·exact h0 h
      ·exact h1 h
      ·exact h2 h
      ·exact hc h
theorem I3.VD(B:I3 C S g ops pl F H T)(D:Oq C.P ops pl){w0:World}{m:Bk}{w:World}{p:Nat}(r:Rel C.P w0 m (H p) w):
  ∀q,p<=q->q<=pl.length->(∀x,p<=x->x<q->Bd C.P (CK ops pl x).op≠3)->Rel C.P w0 m (H q) w
 |0,h1,_,_=>by rw[show 0=p by omega];exact r
 | q +1,h1,h2,O=>by
  by_cases e:p=q+1
  ·rw[<-e];exact r
  ·have ih:=I3.VD B D r q om om (λx a b=>O x a om);have hc:=O q om om;rcases B.at_ D (p:=q) om with⟨_,_,hH,_⟩|⟨_,v,E,_,_⟩
   ·rw[hH];exact ih
   ·rw[JG hc]at E;unfold Jl at E;split at E
    ·simp only[zk,ze]at E;obtain⟨_,_,_,e⟩:=E;rw[<-e];exact ih
    ·split at E
     ·simp only[zk,ze]at E;obtain⟨_,_,_,e⟩:=E;rw[<-e];exact ih
     ·split at E
      ·simp only[zk,ze]at E;obtain⟨_,_,_,e⟩:=E;rw[<-e];exact ih
      ·cases E
    ·simp only[zk,ze]at E;obtain⟨_,_,_,e⟩:=E;rw[<-e];exact ih.ghost _
    ·rename_i h0 h1 h2;exfalso;have:∀op,Bd C.P op=0\/Bd C.P op=1\/Bd C.P op=2\/Bd C.P op=3:=by
      intro op;unfold Bd
      repeat' split
      all_goals simp
     rcases this (CK ops pl q).op with h|h|h|h
     ·exact h0 h
     ·exact h1 h
     ·exact h2 h
     ·exact hc h
end
end Go.Av
