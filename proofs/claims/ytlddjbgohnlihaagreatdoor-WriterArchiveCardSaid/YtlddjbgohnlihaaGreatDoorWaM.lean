/-
  Several texts in one.
-/
import Derived.Test.YtlddjbgohnlihaaGreatDoorWhC
/-
 A part.
-/
section
namespace Go.Av.L
open Go.Av Go.Lib
set_option linter.unusedVariables false
set_option linter.unusedSimpArgs false
set_option maxRecDepth 10000
theorem ct{a b:IH}:Op.bytesLess a b=true↔a<b:=by rw[Go.Proofs.bytesLess_eq];simp
def cP(p x:Pr):Bool:=Op.bytesLess p.Key x.Key||p.Key==x.Key
theorem Yj(p x:Pr):cP p x=decide (p.Key≤x.Key):=by
 unfold cP;rw[qj,yo,ct,yM,zD];constructor
 ·rintro(h|h)
  ·exact List.le_of_lt h
  ·rw[h];exact List.le_refl _
 ·intro h;exact q9.1 h
def other(p:Pr)(l:List Pr):List Pr:=l.filter fun x=> !(x.Key==p.Key)
def Kk(p:Pr):List Pr→List Pr
 |[]=>[p]
 |x::l=>if cP p x=true then p::other p (x::l)else x::Kk p l
theorem RO{p q:Pr}{l:List Pr}:q∈other p l↔q∈l∧q.Key≠p.Key:=by
 unfold other;rw[yf];simp
theorem Rx(p:Pr):∀{l:List Pr},QM l→QM (Kk p l)∧(∀q,q∈Kk p l↔q=p∨(q∈l∧q.Key≠p.Key))∧(Kk p l).length≤l.length+1
 |[],_=>⟨List.pairwise_singleton _ _,by simp[Kk],by simp[Kk]⟩
 | x ::l,h=>by
  obtain⟨h1,h2⟩:=yx.1 h;obtain⟨i1,i2,i3⟩:=Rx p h2;unfold Kk;rw[Yj];by_cases B:p.Key≤x.Key
  ·rw[zm (zf B)];refine⟨yx.2 ⟨fun q D=>?_,h.filter _⟩,fun q=>by rw[zF,RO],?_⟩
   ·obtain⟨F,hq2⟩:=RO.1 D;have hle:p.Key≤q.Key:=by
     rcases zF.1 F with rfl|F
     ·exact B
     ·exact xF B (List.le_of_lt (h1 q F))
    rcases q9.1 hle with E|E
    ·exact E
    ·exact absurd E.symm hq2
   ·have:=qw (fun y:Pr=> !(y.Key==p.Key)) (x::l);simp only[zt,other]at this⊢;omega
  ·rw[zk (by simpa using B)];have O:x.Key<p.Key:=List.not_le.1 B;refine⟨yx.2 ⟨fun q D=>?_,i1⟩,fun q=>?_,by simp only[zt];omega⟩
   ·rcases(i2 q).1 D with rfl|⟨F,_⟩
    ·exact O
    ·exact h1 q F
   ·rw[zF,i2,zF];constructor
    ·rintro(rfl|rfl|⟨E,U⟩)
     ·exact .inr ⟨.inl rfl,fun e=>by rw[e]at O;exact qo _ O⟩
     ·exact .inl rfl
     ·exact .inr ⟨.inr E,U⟩
    ·rintro(rfl|⟨rfl|E,U⟩)
     ·exact .inr (.inl rfl)
     ·exact .inl rfl
     ·exact .inr (.inr ⟨E,U⟩)
def Vs(p:Pr)(d:Bool)(l:List Pr):List Pr:=bif d then other p l else Kk p l
theorem Pg(p x:Pr)(l:List Pr):other p (x::l)=(if x.Key=p.Key then[]else[x])++other p l:=by
 unfold other;rw[qA];by_cases h:x.Key=p.Key
 ·rw[zm h,zk (by simp[h])];rfl
 ·rw[zk h,zm (by simp[h])];rfl
theorem put_eq(l:List Pr)(p:Pr)(P:l.length≤100):A2 l p=some (Kk p l):=by
 refine W.eq ?_;unfold A2;refine W.bind (W.mono (W.list (l:=l) (fun(x:List Pr×Bool) (i:Nat)=>(x.1,x.2,(i:Int))) (fun x i=>x.1++Vs p x.2 (l.drop i)=Kk p l∧x.1.length≤i+x.2.toNat) ?_ ?_ ([],false) ⟨rfl,by simp⟩ (Q:=fun r=>r.1++Vs p r.2 []=Kk p l∧r.1.length≤l.length+1)) ?_)
 ·rintro⟨x,d⟩ ⟨B,C⟩;unfold Dh;refine W.NH (fun h=>by omega) fun _=>W.ret ?_;rw[List.drop_length]at B;have:d.toNat≤1:=by cases d<;>decide
  exact⟨B,by simp only at C⊢;omega⟩
 ·rintro⟨x,d⟩ i hi ⟨B,C⟩;have C:x.length≤i+d.toNat:=C;unfold Dh;refine W.NH (fun _=>?_) fun h=>by omega
  try simp only[]
  rw[EH hi];simp only[za];rw[drop_cons hi]at B;have G:∀(y:List Pr) (d':Bool),y.length≤i+d'.toNat→y++((if l[i].Key=p.Key then[]else[l[i]])++Vs p d' (l.drop (i+1)))=Kk p l→
    W ((AX (!(l[i].Key==p.Key)) (Bn (MY 32 (y.length+([l[i]]:List AA).length))<|some ((y++([l[i]]:List AA)),d')) (some (y,d')):Option (List Pr×Bool))) fun r=>r.1++Vs p r.2 (l.drop (i+1))=Kk p l∧r.1.length≤i+1+r.2.toNat:=by
   intro y d' J he;have:d'.toNat≤1:=by cases d'<;>decide
   refine W.ite (fun h=>?_) fun h=>W.ret ?_
   ·have X:l[i].Key≠p.Key:=by simpa using h
    rw[zk X,←zw]at he;exact W.Bn (GZ (by simp;omega) (by simp;omega)) (W.ret ⟨he,by simp;omega⟩)
   ·have X:l[i].Key=p.Key:=by simpa using h
    rw[zm X,ye]at he;exact⟨he,by simp only;omega⟩
  cases d with
  | true=>
   rw[zY,AK,za,AK,za];refine W.bind (W.mono (G x true C ?_) ?_)
   ·rw[←B];show _=x++other p _;rw[Pg];rfl
   ·rintro⟨y,d'⟩ J;exact W.ret ⟨(y,d'),by rw[DP (by omega)],J⟩
  | false=>
   rw[yD,AQ,za];have hle:(Op.bytesLess p.Key l[i].Key||p.Key==l[i].Key)=cP p l[i]:=rfl;rw[hle];have H:x++(if cP p l[i]=true then p::other p (l[i]::l.drop (i+1))else l[i]::Kk p (l.drop (i+1)))=Kk p l:=B;cases I:cP p l[i]with
   | true=>
    rw[zm I]at H;rw[AQ];have hx0:x.length≤i:=by simpa using C
    refine W.bind (W.bind (W.Bn (GZ (by simp;omega) (by simp;omega)) (W.ret ?_)));refine W.mono (G (x++[p]) true (by simp;omega) ?_) ?_
    ·rw[←H,Pg,zw];rfl
    ·rintro⟨y,d'⟩ J;exact W.ret ⟨(y,d'),by rw[DP (by omega)],J⟩
   | false=>
    rw[I,zk (by decide)]at H;rw[AK,za];have N:l[i].Key≠p.Key:=by
     intro e;rw[Yj,e]at I;have:=of_decide_eq_false I;exact this (List.le_refl _)
    refine W.bind (W.mono (G x false C ?_) ?_)
    ·rw[zk N,←H];rfl
    ·rintro⟨y,d'⟩ J;exact W.ret ⟨(y,d'),by rw[DP (by omega)],J⟩
 ·rintro⟨x,d⟩ ⟨B,C⟩;have C:x.length≤l.length+1:=C;cases d with
  |true=>
   have B:x++[]=Kk p l:=B;rw[yj]at B;simp only[zY,AK,za];exact W.ret B
  |false=>
   have B:x++[p]=Kk p l:=B;simp only[yD,AQ];exact W.bind (W.Bn (GZ (by simp;omega) (by simp;omega)) (W.ret (W.ret B)))
noncomputable def pw(c:Prop)[Decidable c](x:Pr)(l:List Pr):List Pr:=if c then l else Kk x l
structure St(l:List Pr)(ks:List IH)(n:Nat):Prop where
 s:QM l
 k:∀q∈l,q.Key∈ks∨C0 q.Key=false
 n:l.length≤n
theorem OT{l:List Pr}{ks:List IH}{n:Nat}{x:Pr}{c:Prop}[Decidable c](h:St l ks n)(h1:x.Key∉ks)(h2:C0 x.Key=true):St (pw c x l) (x.Key::ks) (n+1)∧∀q,q∈pw c x l↔(¬c∧q=x)∨q∈l:=by
 obtain⟨p1,p2,p3⟩:=Rx x h.s;have T:=h.n;have N:∀q∈l,q.Key≠x.Key:=fun q D e=>by
  rcases h.k q D with h'|h'
  ·exact h1 (e ▸ h')
  ·rw[e,h2]at h';cases h'
 unfold pw;by_cases hc:c
 ·rw[zm hc];exact⟨⟨h.s,fun q D=>(h.k q D).imp (yw _) id,by omega⟩,fun q=>⟨.inr,fun h'=>h'.resolve_left fun h''=>h''.1 hc⟩⟩
 ·rw[zk hc];refine⟨⟨p1,fun q D=>?_,by omega⟩,fun q=>?_⟩
  ·rcases(p2 q).1 D with rfl|⟨h',_⟩
   ·exact .inl (xd ..)
   ·exact(h.k q h').imp (yw _) id
  ·rw[p2];constructor
   ·rintro(h'|⟨h',_⟩)
    ·exact .inl ⟨hc,h'⟩
    ·exact .inr h'
   ·rintro(⟨_,h'⟩|h')
    ·exact .inl h'
    ·exact .inr ⟨h',N q h'⟩
theorem Jd{α:Type}{l:List Pr}{k v:IH}{c:Prop}[Decidable c]{a b:α}(P:l.length≤100):
  (AX (decide c) (some (a,l)) ((A2 l (⟨k,v⟩:AA)).bind fun x=>some (b,x)):Option (α×List Pr))=some (if c then a else b,pw c ⟨k,v⟩ l):=by
 unfold pw;by_cases h:c
 ·rw[zf h,AQ,zm h,zm h]
 ·rw[zi h,AK,put_eq _ _ P,zk h,zk h];rfl
theorem Zq{m:Mem}{n:Int}{ts:IH}{l:List Pr}{p:Prop}(h:∀q,q∈l↔q∈lB m n ts∨q∈m.Extra)(R:Ho m)(M:QM l):l=lW m n ts:=
 PB M (SJ R n ts) fun q=>by rw[h q,(Nc m n ts).mem_iff,zB]
theorem X9{m:Mem}{n:Int}{ts:IH}(R:Ho m)(hm:m.Name.length≤1000000)(B:m.Extra.length≤12)(T:0≤n∧n<9007199254740992)(ht:Bp m.Time.Bu m.Time.BG=some ts):Db m n=some (hB m n,lW m n ts):=by
 have gi:=R.gi;have ui:=R.ui;obtain⟨⟨p,q,b⟩,ep,D⟩:=O6 m.Name hm;obtain⟨r,er,S⟩:=Y9 m.Name hm;obtain rfl:=S.uniq D;have Y:UN m.Name=b:=by unfold UN;rw[ep];rfl
 have S0:St ([]++m.Extra) [] 12:=⟨R.ex.1,fun q D=>.inr (R.ex.2 q D).1,B⟩;have ec5:b=decide (c5 m):=by unfold c5;rw[Y];cases b<;>rfl
 have ec7:decide (m.BO<2097152)=decide (c7 m):=by rw[yG];unfold c7;omega
 have ec1:decide (m.BW<2097152)=decide (c1 m):=by rw[yG];unfold c1;omega
 have ec6:decide (n<8589934592)=decide (c6 n):=by rw[yG];unfold c6;omega
 have ec3:decide ((m.Ah.length:Int)≤100)=decide (c3 m):=by rw[yG];unfold c3;omega
 have ec8:decide ((m.AZ.length:Int)≤32)=decide (c8 m):=by rw[yG];unfold c8;omega
 have ec2:decide ((m.Ad.length:Int)≤32)=decide (c2 m):=by rw[yG];unfold c2;omega
 have ec4:(((m.Time.BG==0)&&(decide (m.Time.Bu≥0)))&&(decide (m.Time.Bu<8589934592)))=decide (c4 m):=by
  rw[qj];simp only[zh,yM,zD];unfold c4;exact⟨fun h=>⟨h.1.1,h.1.2,h.2⟩,fun h=>⟨⟨h.1,h.2.1⟩,h.2.2⟩⟩
 obtain⟨S1,m1⟩:=OT (x:=⟨E8,m.Name⟩) (c:=c5 m) S0 (by simp) (show C0 E8=true by decide);obtain⟨S2,m2⟩:=OT (x:=⟨E7,m.Ah⟩) (c:=c3 m) S1 (by simp[E8,E7]) (show C0 E7=true by decide);obtain⟨S3,m3⟩:=OT (x:=⟨EM,m.AZ⟩) (c:=c8 m) S2 (by simp[E8,E7,EM]) (show C0 EM=true by decide);obtain⟨S4,m4⟩:=OT (x:=⟨Dz,m.Ad⟩) (c:=c2 m) S3 (by simp[E8,E7,EM,Dz]) (show C0 Dz=true by decide);obtain⟨S5,m5⟩:=OT (x:=⟨Hf,Lib.itoa m.BO⟩) (c:=c7 m) S4 (by simp[E8,E7,EM,Dz,Hf]) (show C0 Hf=true by decide);obtain⟨S6,m6⟩:=OT (x:=⟨IA,Lib.itoa m.BW⟩) (c:=c1 m) S5 (by simp[E8,E7,EM,Dz,Hf,IA]) (show C0 IA=true by decide);obtain⟨S7,m7⟩:=OT (x:=⟨Fe,Lib.itoa n⟩) (c:=c6 n) S6 (by simp[E8,E7,EM,Dz,Hf,IA,Fe]) (show C0 Fe=true by decide);obtain⟨S8,m8⟩:=OT (x:=⟨FQ,ts⟩) (c:=c4 m) S7 (by simp[E8,E7,EM,Dz,Hf,IA,Fe,FQ]) (show C0 FQ=true by decide);have n1:=S1.n;have n2:=S2.n;have n3:=S3.n;have n4:=S4.n;have n5:=S5.n;have n6:=S6.n;have n7:=S7.n;unfold Db;rw[GZ (by simp;omega) (by simp;omega),Ak,er,za];dsimp only;rw[ec5,PI ui.1 (by omega),PI gi.1 (by omega),PI T.1 (by omega),←Ge ui.1,←Ge gi.1,←Ge T.1,ht];simp only[za];rw[show([108,105,110,107,112,97,116,104]:List UInt8)=E7 from rfl,show([112,97,116,104]:List UInt8)=E8 from rfl,Jd (by simpa using y8 B (by omega)),za];dsimp only;rw[ec3,Jd (by omega),za];dsimp only;rw[ec8,show([117,110,97,109,101]:List UInt8)=EM from rfl,Jd (by omega),za];dsimp only;rw[ec2,show([103,110,97,109,101]:List UInt8)=Dz from rfl,Jd (by omega),za];dsimp only;rw[ec7,show([117,105,100]:List UInt8)=Hf from rfl,Jd (by omega),za]
 dsimp only;rw[ec1,show([103,105,100]:List UInt8)=IA from rfl,Jd (by omega),za];dsimp only;rw[ec6,show([115,105,122,101]:List UInt8)=Fe from rfl,Jd (by omega),za];dsimp only;rw[ec4,show([109,116,105,109,101]:List UInt8)=FQ from rfl,Jd (by omega),za];dsimp only;have P:pw (c4 m) ⟨FQ,ts⟩ (pw (c6 n) ⟨Fe,Lib.itoa n⟩ (pw (c1 m) ⟨IA,Lib.itoa m.BW⟩ (pw (c7 m) ⟨Hf,Lib.itoa m.BO⟩ (pw (c2 m) ⟨Dz,m.Ad⟩ (pw (c8 m) ⟨EM,m.AZ⟩ (pw (c3 m) ⟨E7,m.Ah⟩ (pw (c5 m) ⟨E8,m.Name⟩ ([]++m.Extra))))))))=lW m n ts:=by
  refine Zq (p:=True) (fun q=>?_) R S8.s;rw[m8,m7,m6,m5,m4,m3,m2,m1,FJ,ye];simp only[or_assoc,or_comm,or_left_comm]
 rw[P];rfl
end Go.Av.L
end
/-
 A part.
-/
section
namespace Go.Av.L
open Go.Av Go.Lib
set_option linter.unusedVariables false
set_option linter.unusedSimpArgs false
section
variable {K V:Type} [DecidableEq K]
theorem Uh(m:List (K×V))(k:K)(v:V)(n:K):Js (CS m k v) n=if n=k then some v else Js m n:=by
 induction m with
 |nil=>simp only[CS,Js]
 | cons p m ih=>
  obtain⟨k',v'⟩:=p;unfold CS;by_cases h:k=k'
  ·subst h;rw[zm rfl];simp only[Js];split<;>rfl
  ·rw[zk h];simp only[Js,ih];by_cases h1:n=k'
   ·subst h1;simp[Ne.symm h]
   ·simp[h1]
end
abbrev Mp:=List (IH×IH)
def du(m:Mp)(p:Pr):Mp:=CS m p.Key p.Value
def mapOf(l:List Pr):Mp:=l.foldl du []
def On(l:List Pr)(k:IH):Option IH:=Js (mapOf l) k
theorem PX(l:List Pr)(p:Pr)(k:IH):On (l++[p]) k=if k=p.Key then some p.Value else On l k:=by
 unfold On mapOf;rw[xi];exact Uh _ _ _ _
def Rows(l r:List Pr):Prop:=QM r∧(∀q,q∈r↔On l q.Key=some q.Value)∧r.length≤l.length
theorem X8:Rows [] []:=⟨.nil,fun q=>by simp[On,mapOf,Js],by simp⟩
theorem RH{l r:List Pr}(h:Rows l r)(p:Pr):Rows (l++[p]) (Kk p r):=by
 obtain⟨h1,h2,E⟩:=h;obtain⟨k1,k2,k3⟩:=Rx p h1;refine⟨k1,fun q=>?_,by rw[ze];simp;omega⟩;rw[k2,h2,PX];by_cases e:q.Key=p.Key
 ·rw[zm e];constructor
  ·rintro(rfl|⟨_,h⟩)
   ·rfl
   ·exact absurd e h
  ·intro h;left;cases q;cases p;simp only[zd]at h e;rw[e,h]
 ·rw[zk e];constructor
  ·rintro(rfl|⟨h,_⟩)
   ·exact absurd rfl e
   ·exact h
  ·exact fun h=>.inr ⟨h,e⟩
theorem eN(a:List Pr)(ha:a.length≤40):W (loop (DF a) (([]:List Pr),(0:Int))) (Rows a):=by
 refine W.list (l:=a) (fun(x:List Pr) (i:Nat)=>(x,(i:Int))) (fun x i=>Rows (a.take i) x) ?_ ?_ [] (by rw[y7];exact X8)
 ·intro x B;unfold DF;refine W.NH (fun h=>by omega) fun _=>W.ret ?_;rw[z8]at B;exact B
 ·intro x i hi B;have C:=B.2.2;rw[zA]at C;unfold DF;refine W.NH (fun _=>?_) fun h=>by omega
  try simp only[]
  rw[EH hi,za,put_eq x a[i] (by omega),za];refine W.ret ⟨_,by rw[DP (by omega)],?_⟩;rw[Da (List.getElem?_eq_getElem hi)];exact RH B _
theorem eR(a b:List Pr)(ha:a.length≤40)(Y:b.length≤40){r:List Pr}(S:Rows a r):W (loop (C4 b) (r,(0:Int))) (Rows (a++b)):=by
 refine W.list (l:=b) (fun(x:List Pr) (i:Nat)=>(x,(i:Int))) (fun x i=>Rows (a++b.take i) x) ?_ ?_ r (by rw[y7,yj];exact S)
 ·intro x B;unfold C4;refine W.NH (fun h=>by omega) fun _=>W.ret ?_;rw[z8]at B;exact B
 ·intro x i hi B;have C:=B.2.2;rw[ze,zA]at C;unfold C4;refine W.NH (fun _=>?_) fun h=>by omega
  try simp only[]
  rw[EH hi,za,put_eq x b[i] (by omega),za];refine W.ret ⟨_,by rw[DP (by omega)],?_⟩;rw[Da (List.getElem?_eq_getElem hi),←zw];exact RH B _
def TG(l:List Pr):List Pr:=l.filter fun x=> !(x.Value==[])
theorem dv(l:List Pr)(P:l.length≤100):loop (C5 l) (([]:List Pr),(0:Int))=some (TG l):=by
 refine W.eq (W.list (l:=l) (fun(x:List Pr) (i:Nat)=>(x,(i:Int))) (fun x i=>x=TG (l.take i)) ?_ ?_ [] rfl)
 ·intro x B;unfold C5;refine W.NH (fun h=>by omega) fun _=>W.ret ?_;rw[B,z8]
 ·intro x i hi B;have C:x.length≤i:=by
   rw[B];have:=qw (fun y:Pr=> !(y.Value==[])) (l.take i);rw[zA]at this;unfold TG;omega
  unfold C5;refine W.NH (fun _=>?_) fun h=>by omega
  try simp only[]
  rw[EH hi];simp only[za];refine W.bind (W.mono (Q:=fun r=>r=TG (l.take (i+1))) ?_ fun r S=>W.ret ⟨r,by rw[DP (by omega)],S⟩);rw[Da (List.getElem?_eq_getElem hi)];have e:TG (l.take i++[l[i]])=TG (l.take i)++if(!(l[i].Value==[]))=true then[l[i]]else[]:=by
   unfold TG;rw[List.filter_append,qA,List.filter_nil]
  rw[e,←B];refine W.ite (fun h=>?_) fun h=>W.ret ?_
  ·rw[zm h];exact W.Bn (GZ (by simp;omega) (by simp;omega)) (W.ret rfl)
  ·rw[zk (by rw[h];decide),yj]
theorem QJ:∀(n:Nat) {l:List Pr},l.length=n→QM l→∀q:Pr,On l q.Key=some q.Value↔q∈l
 |0,l,h,_,q=>by
  obtain rfl:l=[]:=zy h;simp[On,mapOf,Js]
 | n +1,l,h,M,q=>by
  obtain⟨L,p,rfl⟩:∃L p,l=L++[p]:=by
   have T:n<l.length:=by omega
   refine⟨l.take n,l[n],?_⟩;rw[←Da (List.getElem?_eq_getElem T),zI (by omega)]
  obtain⟨h1,_,E⟩:=List.pairwise_append.1 M;have ih:=QJ n (l:=L) (by rw[ze,qy]at h;omega) h1 q;rw[PX];by_cases hk:q.Key=p.Key
  ·rw[zm hk];constructor
   ·intro e;have:q=p:=by
     obtain⟨a,b⟩:=q;obtain⟨c,d⟩:=p;dsimp only at hk e;rw[hk,←zJ e]
    rw[this];simp
   ·intro hm;rcases zB.1 hm with hm|hm
    ·have:=E q hm p (by simp);rw[hk]at this;exact absurd this (qo _)
    ·rw[yT.1 hm]
  ·rw[zk hk,ih];constructor
   ·intro hm;simp[hm]
   ·intro hm;rcases zB.1 hm with hm|hm
    ·exact hm
    ·exact absurd (by rw[yT.1 hm]) hk
theorem WT{l:List Pr}(M:QM l)(q:Pr):On l q.Key=some q.Value↔q∈l:=QJ _ rfl M q
theorem UQ{l:List Pr}(P:l.length≤40)(M:QM l)(hv:∀p∈l,p.Value≠[]):D2 [] l=some l:=by
 unfold D2;refine W.eq (W.bind (W.mono (eN [] (by simp)) fun x B=>W.bind (W.mono (eR [] l (by simp) P B) fun y J=>?_)));obtain⟨h1,h2,E⟩:=J;rw[ye]at h2 E;have e:y=l:=PB h1 M fun q=>by rw[h2,WT M]
 subst e;rw[dv y (by omega),za];refine W.ret ?_;unfold TG;rw[List.filter_eq_self];intro p hp;simpa using hv p hp
end Go.Av.L
end
