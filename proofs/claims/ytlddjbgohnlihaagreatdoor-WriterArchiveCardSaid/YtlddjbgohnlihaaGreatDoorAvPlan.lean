/-
 A part.
-/
import Derived.Test.YtlddjbgohnlihaaGreatDoorAvStep
set_option linter.unusedSimpArgs false
namespace Go.Av
open Go.RowKit
def R4(acc:List Nat)(o:Oper):Nat:=o.after.toList.foldl (fun s e=>if Region.binds .any e then s ||| 2^e.on ||| acc.getD e.on 0 else s) 0
def closure:List Oper→List Nat→List Nat
 |[],acc=>acc
 |o::os,acc=>closure os (acc++[R4 acc o])
theorem P4(acc:List Nat)(j:Nat):∀(l:List Edge) (s:Nat),(l.foldl (fun s e=>if Region.binds .any e then s ||| 2^e.on ||| acc.getD e.on 0 else s) s).testBit j=true↔
  s.testBit j=true∨∃e∈l,Region.binds .any e=true∧(j=e.on∨(acc.getD e.on 0).testBit j=true)
 |[],s=>by simp
 | e::l,s=>by
  rw[yR,P4 acc j l];by_cases N:Region.binds .any e=true
  ·simp only[N,if_true,Nat.testBit_or,yo,Nat.testBit_two_pow,zD,zF,exists_eq_or_imp,qP];constructor
   ·rintro((((h|h)|h))|h)
    ·exact .inl h
    ·exact .inr (.inl (.inl h.symm))
    ·exact .inr (.inl (.inr h))
    ·exact .inr (.inr h)
   ·rintro(h|(h|h)|h)
    ·exact .inl (.inl (.inl h))
    ·exact .inl (.inl (.inr h.symm))
    ·exact .inl (.inr h)
    ·exact .inr h
  ·simp only[N,yu,if_false,zF,exists_eq_or_imp,false_and,false_or]
theorem Jf:∀(l:List Oper) (acc:List Nat) (i:Nat),i<acc.length→(closure l acc)[i]?=acc[i]?
 |[],acc,i,_=>rfl
 |o::l,acc,i,h=>by rw[closure,Jf l _ i (by simp;omega),List.getElem?_append_left h]
theorem Kg:∀(l:List Oper) (acc:List Nat) (k:Nat) (o:Oper) (j:Nat),l[k]?=some o→
  ((((closure l acc).getD (acc.length+k) 0).testBit j=true↔∃e∈o.after.toList,Region.binds .any e=true∧(j=e.on∨(e.on<acc.length+k∧((closure l acc).getD e.on 0).testBit j=true))))
 |[],acc,k,o,j,h=>by simp at h
 | o'::l,acc,0,o,j,h=>by
  simp only[List.getElem?_cons_zero,zd]at h;subst h;have e1:(closure (o'::l) acc).getD (acc.length+0) 0=R4 acc o':=by
   rw[zo,closure,Jf l _ _ (by simp),List.getElem?_append_right (by omega)];simp
  rw[e1,R4,P4];simp only[Nat.zero_testBit,yu,false_or];constructor
  ·rintro⟨e,he,N,h|h⟩
   ·exact⟨e,he,N,.inl h⟩
   ·refine⟨e,he,N,.inr ?_⟩;by_cases X:e.on<acc.length
    ·refine⟨by omega,?_⟩;rw[zo,closure,Jf l _ _ (by simp;omega),List.getElem?_append_left X];simpa[zo]using h
    ·rw[zo,List.getElem?_eq_none (by omega)]at h;simp at h
  ·rintro⟨e,he,N,h|⟨X,h⟩⟩
   ·exact⟨e,he,N,.inl h⟩
   ·refine⟨e,he,N,.inr ?_⟩;rw[zo,closure,Jf l _ _ (by simp;omega),List.getElem?_append_left (by omega)]at h;simpa[zo]using h
 |o'::l,acc,k+1,o,j,h=>by
  have ih:=Kg l (acc++[R4 acc o']) k o j (by simpa using h);simp only[ze,zt,zG]at ih;rw[show acc.length+(k+1)=acc.length+(0+1)+k by omega];exact ih
def dep(cl:List Nat)(i j:Nat):Bool:=(cl.getD j 0).testBit i
def Np(ops:Array Oper)(cl:List Nat)(i:Nat):Bool:=
 match ops[i]? with
 | some o=>(List.range ops.size).all fun j=>
   match ops[j]? with
   |some p=>
    match p.dst with
    |some t=>(Nat.beq j i|| !(o.dst==some t))&&(!(o.looksAt ops).contains t||(!Nat.beq j i&&dep cl j i))
    |none=>true
   |none=>true
 |none=>false
def OE(P:Program)(ops:Array Oper)(cl:List Nat)(x y:Nat×List Nat):Bool:=
  (x.1 !=y.1)&& !dep cl y.1 x.1&&
  (dep cl x.1 y.1||
    (match ops[x.1]?,ops[y.1]? with
     |some a,some b=>a.apart ops b&&(A4 P b.op==0||A4 P a.op==0||(A4 P a.op !=3&&(A4 P b.op !=3||y.2.any (Nat.beq x.1)||(A4 P a.op==1&&(y.2.any (Nat.beq (x.1+10000))&&Np ops cl x.1)))))
     |_,_=>false))
def PD(P:Program)(ops:Array Oper)(cl:List Nat):List (Nat×List Nat)→Bool
 |[]=>true
 |x::l=>l.all (fun y=>OE P ops cl x y)&&PD P ops cl l
def MA:List Oper→Nat→Bool
 |[],_=>true
 |o::l,i=>o.after.toList.all (fun e=> !Region.binds .any e||Nat.blt e.on i)&&MA l (i+1)
theorem M3:∀{l:List Oper} {i:Nat},MA l i=true→∀{k:Nat} {o:Oper} {e:Edge},l[k]?=some o→e∈o.after.toList→Region.binds .any e=true→e.on<i+k
 |[],_,_,k,o,e,hk,_,_=>by simp at hk
 | o'::l,i,h,k,o,e,hk,he,N=>by
  simp only[MA,zh]at h;cases k with
  |zero=>
   simp only[List.getElem?_cons_zero,zd]at hk;subst hk;have:=zn.1 h.1 e he;rw[N]at this;simp only[zY,yJ,yY]at this;omega
  |succ k=>
   have:=M3 h.2 (k:=k) (by simpa using hk) he N;omega
def P3(P:Program)(ops:Array Oper)(pl:List (Nat×List Nat)):Bool:=
 let cl:=closure ops.toList []
 MA ops.toList 0&&pl.all (fun x=>Nat.blt x.1 ops.size)&&(List.range ops.size).all (fun i=>pl.any fun x=>Nat.beq x.1 i)&&PD P ops cl pl
theorem P0{P:Program}{ops:Array Oper}{cl:List Nat}:∀{pl:List (Nat×List Nat)},PD P ops cl pl=true→∀{p q:Nat} {x y:Nat×List Nat},p<q→pl[p]?=some x→pl[q]?=some y→OE P ops cl x y=true
 |[],_,p,q,x,y,_,G,_=>by simp at G
 | z::l,h,p,q,x,y,I,G,hy=>by
  simp only[PD,zh]at h;cases q with
  |zero=>omega
  | succ q=>
   have hy':l[q]?=some y:=by simpa using hy
   cases p with
   |zero=>
    simp only[List.getElem?_cons_zero,zd]at G;subst G;exact zn.1 h.1 y (zQ hy')
   |succ p=>exact P0 h.2 (p:=p) (q:=q) (by omega) (by simpa using G) hy'
section
variable {C:Gp} {S:Self}
structure Mf(C:Gp)(S:Self)(g:Gd)(ops:Array Oper)(pl:List (Nat×List Nat))(F:Nat→Fr)(H:Nat→AI)(T:Nat→List (Nat×Nat)):Prop where
  step:∀p x,pl[p]?=some x→∃o,ops[x.1]?=some o∧
    ((CW ops (F p) o=some false∧F (p+1)=put (F p) o.dst (.tuple [])∧H (p+1)=H p∧T (p+1)=T p)∨
     (CW ops (F p) o=some true∧∃v,BC C S ⟨g.floor,IK (T p) x.2++g.CF⟩ (H p) (F p) o.op=some (v,H (p+1))∧F (p+1)=put (F p) o.dst v∧T (p+1)=Gn C.P (H p) (F p) x.1 o.op (T p)∧Oy C ops x.2 (F (p+1)) (H (p+1))=true))
theorem Lj{g:Gd}{ops:Array Oper}:∀(pl:List (Nat×List Nat)) (t:List (Nat×Nat)) (fr:Fr) (h:AI) (fr':Fr) (h':AI),CB C S g ops pl t fr h=some (fr',h')→
    ∃F H T,Mf C S g ops pl F H T∧F 0=fr∧H 0=h∧T 0=t∧F pl.length=fr'∧H pl.length=h'
  | [],t,fr,h,fr',h',L=>by
    simp only[CB,zd,zg]at L;obtain⟨rfl,rfl⟩:=L;exact⟨fun _=>fr,fun _=>h,fun _=>t,⟨fun p x G=>by simp at G⟩,rfl,rfl,rfl,rfl,rfl⟩
  | (i, U) ::pl,t,fr,h,fr',h',L=>by
    unfold CB at L;split at L
    · cases L
    · rename_i o ho
      have glue:∀(fr1:Fr) (h1:AI) (t1:List (Nat×Nat)),CB C S g ops pl t1 fr1 h1=some (fr',h')→
          ((CW ops fr o=some false∧fr1=put fr o.dst (.tuple [])∧h1=h∧t1=t)∨
           (CW ops fr o=some true∧∃v,BC C S ⟨g.floor,IK t U++g.CF⟩ h fr o.op=some (v,h1)∧fr1=put fr o.dst v∧t1=Gn C.P h fr i o.op t∧Oy C ops U fr1 h1=true))→
          ∃F H T,Mf C S g ops ((i,U)::pl) F H T∧F 0=fr∧H 0=h∧T 0=t∧F ((i,U)::pl).length=fr'∧H ((i,U)::pl).length=h':=by
        intro fr1 h1 t1 hrest hst;obtain⟨F,H,T,B,rfl,rfl,rfl,W,hH⟩:=Lj pl t1 fr1 h1 fr' h' hrest;refine⟨fun|0=>fr|p+1=>F p,fun|0=>h|p+1=>H p,fun|0=>t|p+1=>T p,⟨fun p x G=>?_⟩,rfl,rfl,rfl,by simpa using W,by simpa using hH⟩;cases p with
        | zero=>
          simp only[List.getElem?_cons_zero,zd]at G;subst G;exact⟨o,ho,hst⟩
        |succ p=>exact B.step p x (by simpa using G)
      split at L
      · rename_i hw
        split at L
        · rename_i v h1 E
          cases M:Oy C ops U (put fr o.dst v) h1 with
          |false=>rw[M]at L;cases L
          | true=>
            rw[M]at L;exact glue _ _ _ L (.inr ⟨hw,v,E,rfl,rfl,M⟩)
        · cases L
      · rename_i hw
        exact glue _ _ _ L (.inl ⟨hw,rfl,rfl,rfl⟩)
      · cases L
end
def BK(pl:List (Nat×List Nat))(p:Nat):Nat:=(pl.getD p (0,[])).1
def LQ(pl:List (Nat×List Nat))(p:Nat):List Nat:=(pl.getD p (0,[])).2
def BV(ops:Array Oper)(pl:List (Nat×List Nat))(p:Nat):Oper:=ops.getD (BK pl p) default
structure Mo(P:Program)(ops:Array Oper)(pl:List (Nat×List Nat)):Prop where
 lt:∀p,p<pl.length→ops[BK pl p]?=some (BV ops pl p)
 eQ:∀i,i<ops.size→∃p,p<pl.length∧BK pl p=i
 dy:∀p,p<pl.length→∀e∈(BV ops pl p).after.toList,Region.binds .any e=true→e.on<BK pl p
 ne:∀p q,p<q→q<pl.length→BK pl p≠BK pl q
 ah:∀p q,p<q→q<pl.length→dep (closure ops.toList []) (BK pl q) (BK pl p)=false
 pair:∀p q,p<q→q<pl.length→dep (closure ops.toList []) (BK pl p) (BK pl q)=true∨
  ((BV ops pl p).apart ops (BV ops pl q)=true∧(A4 P (BV ops pl q).op=0∨A4 P (BV ops pl p).op=0∨
   (A4 P (BV ops pl p).op≠3∧(A4 P (BV ops pl q).op≠3∨(LQ pl q).any (Nat.beq (BK pl p))=true∨
    (A4 P (BV ops pl p).op=1∧(LQ pl q).any (Nat.beq (BK pl p+10000))=true∧Np ops (closure ops.toList []) (BK pl p)=true)))))
theorem Ve{P:Program}{ops:Array Oper}{pl:List (Nat×List Nat)}(h:P3 P ops pl=true):Mo P ops pl:=by
 simp only[P3,zh]at h;obtain⟨⟨⟨h0,h1⟩,h2⟩,O⟩:=h;have get:∀p,p<pl.length→pl[p]?=some (BK pl p,LQ pl p):=fun p D=>by
  simp[BK,LQ,zo,List.getElem?_eq_getElem D]
 have lt:∀p,p<pl.length→BK pl p<ops.size:=fun p D=>by
  have:=zn.1 h1 _ (zQ (get p D));rw[yY]at this;exact this
 have lt':∀p,p<pl.length→ops[BK pl p]?=some (BV ops pl p):=fun p D=>by
  have:=lt p D;simp[BV,zr,this]
 have pk:∀p q,p<q→q<pl.length→OE P ops (closure ops.toList []) (BK pl p,LQ pl p) (BK pl q,LQ pl q)=true:=fun p q I Y=>
  P0 O I (get p (by omega)) (get q Y)
 refine⟨lt',fun i hi=>?_,fun p D e he N=>?_,fun p q I Y=>?_,fun p q I Y=>?_,fun p q I Y=>?_⟩
 ·have:=zn.1 h2 i (by simpa using hi);obtain⟨x,G,hxi⟩:=y6.1 this;obtain⟨p,D,rfl⟩:=qD.1 G;refine⟨p,D,?_⟩;rw[←zu hxi];simp[BK,zo,List.getElem?_eq_getElem D]
 ·have:=M3 h0 (k:=BK pl p) (by simpa using lt' p D) he N;omega
 ·have:=pk p q I Y;simp only[OE,zh,qR]at this;exact this.1.1
 ·have:=pk p q I Y;simp only[OE,zh,zK]at this;exact this.1.2
 ·have:=pk p q I Y;simp only[OE,zh,yo]at this;rcases this.2 with hd|hd
  ·exact .inl hd
  ·right;rw[lt' p (by omega),lt' q Y]at hd;simp only[zh,yo,yM,qR]at hd;refine⟨hd.1,?_⟩;rcases hd.2 with(a|a)|⟨a,b⟩
   ·exact .inl a
   ·exact .inr (.inl a)
   ·refine .inr (.inr ⟨a,?_⟩);rcases b with(b|b)|⟨b,c,d⟩
    ·exact .inl b
    ·exact .inr (.inl b)
    ·exact .inr (.inr ⟨b,c,d⟩)
def IP(f:Nat→Bool):Nat→Nat→Nat
 |s,0=>s
 |s,k+1=>if f s=true then s else IP f (s+1) k
theorem El(f:Nat→Bool):∀(k s:Nat),s≤IP f s k∧IP f s k≤s+k∧(∀p,s≤p→p<IP f s k→f p=false)∧(IP f s k<s+k→f (IP f s k)=true)
 |0,s=>⟨zC _,zC _,fun p h1 h2=>by simp[IP]at h2;omega,fun h=>by simp[IP]at h⟩
 | k+1,s=>by
  unfold IP;by_cases hf:f s=true
  ·rw[zm hf];exact⟨zC _,by omega,fun p h1 h2=>by omega,fun _=>hf⟩
  ·rw[zk hf];obtain⟨a,b,c,d⟩:=El f k (s+1);refine⟨by omega,by omega,fun p h1 h2=>?_,fun h=>d (by omega)⟩;by_cases e:p=s
   ·subst e;simpa using hf
   ·exact c p (by omega) h2
theorem NJ(f:Nat→Bool){n r:Nat}(L:r≤n)(h1:∀p,p<r→f p=false)(h2:r<n→f r=true):IP f 0 n=r:=by
 obtain⟨a,b,c,d⟩:=El f n 0;rcases ql (IP f 0 n) r with h|h|h
 ·have:=h1 _ h;rw[d (by omega)]at this;cases this
 ·exact h
 ·have:=c r (by omega) h;rw[h2 (by omega)]at this;cases this
section
variable {C:Gp} {S:Self} {g:Gd} {ops:Array Oper} {pl:List (Nat×List Nat)} {F:Nat→Fr} {H:Nat→AI} {T:Nat→List (Nat×Nat)}
theorem Mf.at_(B:Mf C S g ops pl F H T)(D:Mo C.P ops pl){p:Nat}(h:p<pl.length):
  (CW ops (F p) (BV ops pl p)=some false∧F (p+1)=put (F p) (BV ops pl p).dst (.tuple [])∧H (p+1)=H p∧T (p+1)=T p)∨
  (CW ops (F p) (BV ops pl p)=some true∧∃v,BC C S ⟨g.floor,IK (T p) (LQ pl p)++g.CF⟩ (H p) (F p) (BV ops pl p).op=some (v,H (p+1))∧F (p+1)=put (F p) (BV ops pl p).dst v∧
   T (p+1)=Gn C.P (H p) (F p) (BK pl p) (BV ops pl p).op (T p)∧Oy C ops (LQ pl p) (F (p+1)) (H (p+1))=true):=by
 have G:pl[p]?=some (BK pl p,LQ pl p):=by simp[BK,LQ,zo,List.getElem?_eq_getElem h]
 obtain⟨o,ho,hst⟩:=B.step p _ G;rw[D.lt p h]at ho;injection ho with ho;subst ho;exact hst
theorem Mf.len(B:Mf C S g ops pl F H T)(D:Mo C.P ops pl):∀p,p≤pl.length→(F p).length=(F 0).length
 |0,_=>rfl
 |p+1,h=>by
  rw[←Mf.len B D p (by omega)];rcases B.at_ D (p:=p) (by omega)with⟨_,W,_⟩|⟨_,v,_,W,_⟩<;>rw[W]<;>simp
theorem PZ(fr:Fr){d:Option Tmp}{t:Nat}(v:AB)(h:d≠some t):nth (put fr d v) t=nth fr t:=by
 cases d with
 |none=>rfl
 |some d=>
  simp only[put];rw[FY,zk (by rintro⟨rfl,_⟩;exact h rfl)]
theorem Mf.slot(B:Mf C S g ops pl F H T)(D:Mo C.P ops pl){t p:Nat}:∀q,p≤q→q≤pl.length→(∀x,p≤x→x<q→(BV ops pl x).dst≠some t)→nth (F q) t=nth (F p) t
 |0,h1,_,_=>by rw[show p=0 by omega]
 | q+1,h1,h2,O=>by
  by_cases e:p=q+1
  ·rw[e]
  ·rw[←Mf.slot B D q (by omega) (by omega) (fun x a b=>O x a (by omega))];have hne:=O q (by omega) (by omega);rcases B.at_ D (p:=q) (by omega)with⟨_,W,_⟩|⟨_,v,_,W,_⟩<;>rw[W,PZ _ _ hne]
theorem Mf.keeps(B:Mf C S g ops pl F H T)(D:Mo C.P ops pl)(V:GK C.P C.Cx S){p:Nat}(h:p<pl.length):BE ⟨g.floor,IK (T p) (LQ pl p)++g.CF⟩ (H p) (H (p+1)):=by
 rcases B.at_ D h with⟨_,_,hH,_⟩|⟨_,v,E,_,_⟩
 ·rw[hH];exact BE.refl _ _
 ·exact Jb V E
theorem Mf.size(B:Mf C S g ops pl F H T)(D:Mo C.P ops pl)(V:GK C.P C.Cx S){p:Nat}:∀q,p≤q→q≤pl.length→(H p).size≤(H q).size
 |0,h1,_=>by rw[show p=0 by omega];exact zC _
 |q+1,h1,h2=>by
  by_cases e:p=q+1
  ·rw[e];exact zC _
  ·exact y8 (Mf.size B D V q (by omega) (by omega)) (B.keeps D V (p:=q) (by omega)).1
theorem Tz{g:Gd}{t:List (Nat×Nat)}{U:List Nat}{i id:Nat}(h1:(i,id)∈t)(h2:U.any (Nat.beq i)=true):(⟨g.floor,IK t U++g.CF⟩:Gd).may id=false:=by
 have:(IK t U++g.CF).any (Nat.beq id)=true:=by
  refine y6.2 ⟨id,zB.2 (.inl (qG.2 ⟨(i,id),h1,?_⟩)),ym id⟩;simp[h2]
 simp[Gd.may,this]
theorem Un{g:Gd}{l:List Nat}(id:Nat)(h:g.may id=false):(⟨g.floor,l++g.CF⟩:Gd).may id=false:=by
 simp only[Gd.may,yb,qt]at h⊢;rcases h with h|h
 ·exact .inl h
 ·right;simp[xu,h]
theorem Mf.told(B:Mf C S g ops pl F H T)(D:Mo C.P ops pl){p:Nat}{x:Nat×Nat}(G:x∈T p):∀q,p≤q→q≤pl.length→x∈T q
 |0,h1,_=>by rw[show 0=p by omega];exact G
 | q +1,h1,h2=>by
  by_cases e:p=q+1
  ·rw[←e];exact G
  ·have ih:=Mf.told B D G q (by omega) (by omega);rcases B.at_ D (p:=q) (by omega)with⟨_,_,_,hT⟩|⟨_,v,_,_,hT,_⟩
   ·rw[hT];exact ih
   ·rw[hT];unfold Gn;split
    ·split
     ·exact yw _ ih
     ·exact ih
    ·exact yw _ ih
    ·exact ih
theorem Mf.same(B:Mf C S g ops pl F H T)(D:Mo C.P ops pl)(V:GK C.P C.Cx S){p i id:Nat}(G:(i,id)∈T p)(hid:id<(H p).size):
  ∀q,p≤q→q≤pl.length→(∀x,p≤x→x<q→A4 C.P (BV ops pl x).op=3→(LQ pl x).any (Nat.beq i)=true)→(H q).get id=(H p).get id
 |0,h1,_,_=>by rw[show p=0 by omega]
 | q + 1,h1,h2,O=>by
  by_cases e:p=q+1
  ·rw[e]
  ·rw [←Mf.same B D V G hid q (by omega) (by omega) (fun x a b=>O x a (by omega))];have J:id<(H q).size:=zX hid (B.size D V q (by omega) (by omega));by_cases hc:A4 C.P (BV ops pl q).op=3
   ·exact(B.keeps D V (p:=q) (by omega)).2 id J (Tz (B.told D G q (by omega) (by omega)) (O q (by omega) (by omega) hc))
   ·rcases B.at_ D (p:=q) (by omega)with⟨_,_,hH,_⟩|⟨_,v,E,_,_⟩
    ·rw[hH]
    ·rw[Hg hc]at E;unfold IJ at E;split at E
     ·simp only[zl,zg]at E;obtain⟨_,_,_,e⟩:=E;rw[←e]
     ·split at E
      ·simp only[zl,zg]at E;obtain⟨_,_,_,e⟩:=E;rw[←e]
      ·split at E
       ·simp only[zl,zg]at E;obtain⟨_,_,_,e⟩:=E;rw[←e]
       ·cases E
     ·simp only[zl,zg]at E;obtain⟨_,_,_,e⟩:=E;rw[←e];exact AI.Bz _ _ J
     ·rename_i h0 h1 h2;exfalso;have:∀op,A4 C.P op=0∨A4 C.P op=1∨A4 C.P op=2∨A4 C.P op=3:=by
       intro op;unfold A4
       repeat' split
       all_goals simp
      rcases this (BV ops pl q).op with h|h|h|h
      ·exact h0 h
      ·exact h1 h
      ·exact h2 h
      ·exact hc h
theorem XM{v x:AB}(h:Xy v x=true):v=x:=by
 unfold Xy at h;split at h
 ·simp only[zh]at h;rw[zu h.1,zu h.2]
 ·simp only[zh,zD]at h;rw[h.1,h.2]
 ·simp only[yM]at h;rw[h]
 ·simp only[zD]at h;rw[h]
 ·rfl
 ·cases h
theorem Mf.reads(B:Mf C S g ops pl F H T)(D:Mo C.P ops pl)(V:GK C.P C.Cx S){p id:Nat}{ob:B0}{x:AB}(hpn:p<pl.length)(hw:CW ops (F p) (BV ops pl p)=some true)
  (ht:Dg (F p) (BV ops pl p).op=some id) (hg:(H (p+1)).get id=some ob) (G:Kx C.P C.Cx (F p) (some ob) (BV ops pl p).op=some x) (W:F (p+1)=put (F p) (BV ops pl p).dst x) (Z:(BK pl p,id)∈T (p+1)):
  ∀q,p+1≤q→q≤pl.length→(∀y,p<y→y<q→A4 C.P (BV ops pl y).op=3→(LQ pl y).any (Nat.beq (BK pl p))=true∨((LQ pl y).any (Nat.beq (BK pl p+10000))=true∧Np ops (closure ops.toList []) (BK pl p)=true))→
   ∃ob',(H q).get id=some ob'∧Kx C.P C.Cx (F p) (some ob') (BV ops pl p).op=some x
 |0,h1,_,_=>by omega
 | q + 1, h1,h2,O=>by
  by_cases e:p=q
  ·subst e;exact⟨ob,hg,G⟩
  ·obtain ⟨ob',g1,g2⟩:=Mf.reads B D V hpn hw ht hg G W Z q (by omega) (by omega) (fun y a b=>O y a (by omega));have J:=(H q).BN g1;have Hr:(H (q+1)).get id=(H q).get id→∃ob',(H (q+1)).get id=some ob'∧Kx C.P C.Cx (F p) (some ob') (BV ops pl p).op=some x:=fun e=>⟨ob',by rw[e];exact g1,g2⟩;by_cases hc:A4 C.P (BV ops pl q).op=3
   ·rcases O q (by omega) (by omega) hc with hu|⟨hu,Q⟩
    ·exact Hr ((B.keeps D V (p:=q) (by omega)).2 id J (Tz (B.told D Z q (by omega) (by omega)) hu))
    ·rcases B.at_ D (p:=q) (by omega)with⟨_,_,hH,_⟩|⟨_,v,E,hFq,_,M⟩
     ·rw[hH];exact⟨ob',g1,g2⟩
     ·unfold Oy at M;obtain⟨u,hum,hue⟩:=y6.1 hu;have hue:=zu hue;have K:=zn.1 M u hum;have hbl:Nat.blt u 10000=false:=by rw[←qf,yY];omega
      rw[hbl,yJ,show u - 10000=BK pl p by omega]at K;unfold ao at K;unfold Np at Q;rw[D.lt p hpn]at K Q;simp only at K Q;have noW:∀y,p<y→y≤q→∀t,(BV ops pl y).dst=some t→(BV ops pl p).dst≠some t∧t∉(BV ops pl p).looksAt ops:=by
       intro y a b t hd;have hyn:y<pl.length:=by omega
       have hly:=D.lt y hyn;have h6:=zn.1 Q (BK pl y) (by simpa using(Array.getElem?_eq_some_iff.1 hly).1);rw[hly]at h6;simp only[hd,zh,yo,zK]at h6;refine⟨fun e=>?_,fun hm=>?_⟩
       ·rcases h6.1 with h|h
        ·exact D.ne p y a hyn (zu h).symm
        ·rw[e]at h;simp at h
       ·rcases h6.2 with h|h
        ·have:((BV ops pl p).looksAt ops).contains t=true:=by simpa using hm
         rw[this]at h;cases h
        ·rw[D.ah p y a hyn]at h;exact absurd h.2 (by simp)
      have sameL:∀t∈(BV ops pl p).looksAt ops,(BV ops pl p).dst≠some t→nth (F (q+1)) t=nth (F p) t:=by
       intro t hm hd;refine B.slot D (q+1) (by omega) (by omega) fun y a b hy=>?_;by_cases e:y=p
       ·subst e;exact hd hy
       ·exact(noW y (by omega) (by omega) t hy).2 hm
      have hself:∀t∈(BV ops pl p).looksAt ops,(BV ops pl p).dst≠some t:=by
       intro t hm hd;have hlp:=D.lt p hpn;have h6:=zn.1 Q (BK pl p) (by simpa using(Array.getElem?_eq_some_iff.1 hlp).1);rw[hlp]at h6;simp only[hd,zh,yo,zK]at h6;rcases h6.2 with h|h
       ·have:((BV ops pl p).looksAt ops).contains t=true:=by simpa using hm
        rw[this]at h;cases h
       ·simp only[ym]at h;exact absurd h.1 (by simp)
      have Mc:∀t∈(BV ops pl p).looksAt ops,nth (F (q+1)) t=nth (F p) t:=fun t hm=>sameL t hm (hself t hm);rw[Ko Mc,hw]at K;simp only at K;have hso:=OR Mc;rw[Lu hso,ht]at K;split at K
      ·rename_i d id' hd R;injection R with R;subst R;simp only[zh]at K;obtain⟨X,K⟩:=K;split at K
       ·rename_i ob2 hg2;split at K
        ·rename_i v2 hv2;refine⟨ob2,hg2,?_⟩;rw[NQ hso]at hv2;have e1:=XM K;have e2:nth (F (q+1)) d=nth (F (p+1)) d:=B.slot D (q+1) (by omega) (by omega) fun y a b hy=>(noW y (by omega) (by omega) d hy).1 hd;have e3:nth (F (p+1)) d=x:=by
          rw[W,hd];show nth ((F p).set d x) d=x;have hl1:=B.len D (q+1) (by omega);have hl2:=B.len D p (by omega);rw[yY]at X;rw[FY,zm ⟨rfl,by omega⟩]
         rw[hv2,e1,e2,e3]
        ·cases K
       ·cases K
      ·cases K
   ·refine Hr ?_;rcases B.at_ D (p:=q) (by omega)with⟨_,_,hH,_⟩|⟨_,v,E,_,_⟩
    ·rw[hH]
    ·rw[Hg hc]at E;unfold IJ at E;split at E
     ·simp only[zl,zg]at E;obtain⟨_,_,_,e⟩:=E;rw[←e]
     ·split at E
      ·simp only[zl,zg]at E;obtain⟨_,_,_,e⟩:=E;rw[←e]
      ·split at E
       ·simp only[zl,zg]at E;obtain⟨_,_,_,e⟩:=E;rw[←e]
       ·cases E
     ·simp only[zl,zg]at E;obtain⟨_,_,_,e⟩:=E;rw[←e];exact AI.Bz _ _ J
     ·rename_i h0 h1 h2;exfalso;have:∀op,A4 C.P op=0∨A4 C.P op=1∨A4 C.P op=2∨A4 C.P op=3:=by
       intro op;unfold A4
       repeat' split
       all_goals simp
      rcases this (BV ops pl q).op with h|h|h|h
      ·exact h0 h
      ·exact h1 h
      ·exact h2 h
      ·exact hc h
theorem Mf.Re(B:Mf C S g ops pl F H T)(D:Mo C.P ops pl){w0:World}{m:BD}{w:World}{p:Nat}(r:Rel C.P w0 m (H p) w):
  ∀q,p≤q→q≤pl.length→(∀x,p≤x→x<q→A4 C.P (BV ops pl x).op≠3)→Rel C.P w0 m (H q) w
 |0,h1,_,_=>by rw[show 0=p by omega];exact r
 | q +1,h1,h2,O=>by
  by_cases e:p=q+1
  ·rw[←e];exact r
  ·have ih:=Mf.Re B D r q (by omega) (by omega) (fun x a b=>O x a (by omega));have hc:=O q (by omega) (by omega);rcases B.at_ D (p:=q) (by omega)with⟨_,_,hH,_⟩|⟨_,v,E,_,_⟩
   ·rw[hH];exact ih
   ·rw[Hg hc]at E;unfold IJ at E;split at E
    ·simp only[zl,zg]at E;obtain⟨_,_,_,e⟩:=E;rw[←e];exact ih
    ·split at E
     ·simp only[zl,zg]at E;obtain⟨_,_,_,e⟩:=E;rw[←e];exact ih
     ·split at E
      ·simp only[zl,zg]at E;obtain⟨_,_,_,e⟩:=E;rw[←e];exact ih
      ·cases E
    ·simp only[zl,zg]at E;obtain⟨_,_,_,e⟩:=E;rw[←e];exact ih.ghost _
    ·rename_i h0 h1 h2;exfalso;have:∀op,A4 C.P op=0∨A4 C.P op=1∨A4 C.P op=2∨A4 C.P op=3:=by
      intro op;unfold A4
      repeat' split
      all_goals simp
     rcases this (BV ops pl q).op with h|h|h|h
     ·exact h0 h
     ·exact h1 h
     ·exact h2 h
     ·exact hc h
end
end Go.Av
