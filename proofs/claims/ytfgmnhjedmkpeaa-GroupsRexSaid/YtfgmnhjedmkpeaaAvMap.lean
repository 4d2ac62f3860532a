/-
  Several texts in one.
-/
import Derived.Test.YtfgmnhjedmkpeaaAvHH
set_option linter.unusedSimpArgs false
/-
 A part.
-/
section
namespace Go.Av
set_option linter.unusedVariables false
structure Ml{α:Type}(e:α->List AD)(z:Nat):Prop where
 len:∀x,(e x).length=z
 one:∀x,(e x).all AD.one=true
 can:∀x,(e x).map IG=e x
abbrev Af{α:Type}(e:α->List AD)(xs:List α):List AD:=xs.flatMap e
abbrev vs{α:Type}(e:α->List AD)(xs:List α):AD:=.JV xs.length (Af e xs)
def eI(k:IntKind)(x:Int):List AD:=[.int k x]
def eB(x:Bool):List AD:=[.bool x]
def eS(x:List UInt8):List AD:=[.str x]
def eY(x:UInt8):List AD:=[.int .u8 x.toNat]
theorem encI(k:IntKind):Ml (eI k) 1:=⟨λ_=>rfl,λ_=>rfl,λ_=>rfl⟩
theorem F5:Ml eB 1:=⟨λ_=>rfl,λ_=>rfl,λ_=>rfl⟩
theorem W1:Ml eY 1:=⟨λ_=>rfl,λ_=>rfl,λ_=>rfl⟩
section
variable {α:Type} {e:α->List AD} {z:Nat}
theorem Ml.K9(E:Ml e z):∀xs:List α,(Af e xs).length=xs.length*z
 |[]=>by simp
 |x::xs=>by simp only[Af,yl,zH,E.len,zP];rw[show(List.flatMap e xs).length=xs.length*z from E.K9 xs,yj];omega
theorem Ml.VJ(E:Ml e z)(xs:List α):(Af e xs).all AD.one=true:=by
 rw[zC];intro v J;obtain⟨x,_,I⟩:=yx.1 J;exact zC.1 (E.one x) v I
theorem Ml.CB(E:Ml e z):∀xs:List α,(Af e xs).map IG=Af e xs
 |[]=>rfl
 |x::xs=>by simp only[Af,yl,yQ,E.can];rw[show(List.flatMap e xs).map IG=_ from E.CB xs]
theorem Ml.take(E:Ml e z):∀(xs:List α) (n:Nat),(Af e xs).take (n*z)=Af e (xs.take n)
 |[],n=>by simp
 |x::xs,0=>by simp
 |x::xs,n+1=>by
  simp only[Af,yl,qk];rw[yj,qg,Nat.add_comm,<-E.len x,yD,E.len x];congr 1;exact E.take xs n
theorem Ml.drop(E:Ml e z):∀(xs:List α) (n:Nat),(Af e xs).drop (n*z)=Af e (xs.drop n)
 |[],n=>by simp
 |x::xs,0=>by simp
 |x::xs,n+1=>by
  simp only[Af,yl,qj];rw[yj,qg,Nat.add_comm,<-E.len x,yC,E.len x];exact E.drop xs n
theorem Ml.at_(E:Ml e z){xs:List α}{i:Nat}{x:α}(h:xs[i]?=some x):((Af e xs).drop (i*z)).take z=e x:=by
 obtain⟨hi,I⟩:=List.getElem?_eq_some_iff.1 h;rw[E.drop,zY hi,I];simp only[Af,yl];rw[<-E.len x,qh]
end
def Fy{α:Type}(xs:List α)(i:Int):Option α:=if 0<=i then xs[i.toNat]? else none
def Pe{α:Type}(xs:List α)(lo hi:Option Int):Option (List α):=(Qn xs.length lo hi).map λp=>(xs.drop p.1).take (p.2 - p.1)
section
variable (P:Program) (fr:Fr)
def V5:Op->Option (Nat×List AD×Nat×Int)
 | .indexAddr t x i=>
  match P.underlying t,ev fr x,ev fr i with
  |some (.slice e),.JV n cs,.int _ i=>(B9 P e).map λz=>(n,cs,z,i)
  |_,_,_=>none
 |_=>none
def Xl:Op->Option AD
 | .load t a=>
  match ev fr a with
  | .Ee cs=>Fi P (some (.cells none 1 cs)) t 0
  |_=>none
 |_=>none
end
section
variable {C:Gf} {S:Self} {g:Gd} {h h1:AE} {fr:Fr} {op:Op} {α:Type} {e:α->List AD} {z:Nat}
theorem G1{xs:List α}{i:Int}{x:α}(E:Ml e z)(Q:z≠0)(M:V5 C.P fr op=some (xs.length,Af e xs,z,i))(hl:Fy xs i=some x):BI C S g h fr op=some (.Ee (e x),h):=by
 unfold V5 at M;split at M
 ·rename_i t y j;split at M
  ·rename_i el n cs k i' hu J hi;simp only[zh,ze]at M;obtain⟨z',hz',rfl,rfl,rfl,rfl⟩:=M;unfold Fy at hl;split at hl
   ·rename_i Z;have hlt:=(List.getElem?_eq_some_iff.1 hl).1;rw[Gh (by simp[As])];simp only[Gn,As,Gj,J,hi,Fa,hu];rw[zj ⟨Z,by omega⟩,hz',za,zj ⟨E.K9 xs,Q⟩,E.at_ hl];rfl
   ·cases hl
  ·cases M
 ·cases M
theorem Jk{v:AD}(M:Xl C.P fr op=some v):BI C S g h fr op=some (v,h):=by
 unfold Xl at M;split at M
 ·split at M
  ·rename_i cs J;rw[Gh (by simp[As])];simp only[Gn,As,Cm,J,EN,Iq,M,zf]
  ·cases M
 ·cases M
theorem O2:∀l:List UInt8,bytesOf (Af eY l)=some l
 |[]=>rfl
 |b::l=>by
  simp only[Af,yl,eY,yN,bytesOf];rw[show bytesOf (List.flatMap eY l)=some l from O2 l];simp
end
section
variable {g:Gd} {h:AE} {L F:List Ck} {α:Type} {e:α->List AD} {z:Nat}
theorem HH.to{h':AE}(a:HH g h L F)(e:h'=h):HH g h' L F:=e ▸ a
theorem HH.Tv(E:Ml e z)(Q:z≠0)(a:HH g h L F)(k:Nat){r:Option Nat}{t:TypeId}{xs:List α}(D:L[k]?=some (.Af r t (Af e xs))):Ch h z xs.length (AR r xs.length)=some (Af e xs):=Dm a k D (E.K9 xs) Q
theorem OA(E:Ml e z)(h:AE)(xs:List α):Ch h z xs.length (vs e xs)=some (Af e xs):=by
 unfold Ch vs;simp only;rw[zj ⟨zq _,E.K9 xs⟩,zM (by rw[E.K9 xs];exact zq _)]
def Pb(bytes n:Nat):Bool:=decide (n<=1099511627776/\n*bytes<=1099511627776)
theorem HH.OJ(E:Ml e z)(Q:z≠0)(a:HH g h L F)(k:Nat){r:Option Nat}{t:TypeId}{xs ys:List α}{new:List AD}{bytes m:Nat}{x:AD}(D:L[k]?=some (.Af r t (Af e xs)))(I:Ch h z m x=some new)(hc:new.map IG=Af e ys)(hm:m=ys.length)(G:Pb bytes (xs.length+m)=true):
  ∃r' h',Av.app t z bytes g h (DM r xs.length) m x=some (DM r' (xs++ys).length,h')/\HH g h' (L.set k (.Af r' t (Af e (xs++ys)))) F:=by
 subst hm;obtain⟨r',h',h1,O⟩:=a.app k D (E.K9 xs) Q I hc (E.K9 ys) (of_decide_eq_true G) (E.VJ xs) (E.VJ ys);refine⟨r',h',by rw[h1,zH],?_⟩;have:Af e (xs++ys)=Af e xs++Af e ys:=by simp[Af]
 rw[this];exact O
theorem HH.OU(E:Ml e z)(Q:z≠0)(a:HH g h L F)(k:Nat){r:Option Nat}{t:TypeId}{xs:List α}(D:L[k]?=some (.Af r t (Af e xs))){i:Int}{x:α}(hi:Fy xs i=some x):
  ∃id,r=some id/\h.get id=some (.cells (some t) 2 (Af e xs))/\Jp (DM r xs.length) z i=some (id,i.toNat*z)/\xs[i.toNat]?=some x:=by
 unfold Fy at hi;split at hi
 ·rename_i Z;have hlt:=(List.getElem?_eq_some_iff.1 hi).1;cases r with
  |none=>
   have hn:Af e xs=[]:=a.mem D;exfalso;have h1:=E.K9 xs;rw[hn]at h1;have O:xs.length*z=0:=by simpa using h1.symm
   rcases ym.1 O with h|h
   ·omega
   ·exact Q h
  |some id=>
   refine⟨id,rfl,a.mem D,?_,hi⟩;simp only[DM,zf,Jp];rw[SR,zj ⟨Z,by omega⟩];simp
 ·cases hi
theorem HH.row(a:HH g h L F)(k:Nat){r:Option Nat}{t:TypeId}{cs:List AD}(D:L[k]?=some (.Af r t cs)){id:Nat}(er:r=some id):h.get id=some (.cells (some t) 2 cs):=by
 subst er;exact a.mem D
theorem LJ(E:Ml e z){id:Nat}{gr:Option TypeId}{xs:List α}(T:h.get id=some (.cells gr 2 (Af e xs))){i:Nat}{x:α}(I:xs[i]?=some x)(o n:Nat)(hon:o+n<=z):Eb h (id,i*z+o) n=some (((e x).drop o).take n):=by
 have hi:=(List.getElem?_eq_some_iff.1 I).1;have hle:(i+1)*z<=xs.length*z:=zU _ (by omega);rw[yj,qg]at hle;unfold Av.Eb B2;simp only[T];rw[zj ⟨by simp,by rw[E.K9 xs];omega⟩,<-E.at_ I,<-yU];congr 1;generalize (Af e xs).drop (i*z)=l;rw[List.drop_take,List.take_take,qE (by omega)]
theorem KT(E:Ml e z){id:Nat}{gr:Option TypeId}{xs:List α}(T:h.get id=some (.cells gr 2 (Af e xs))){i:Nat}{x:α}(I:xs[i]?=some x){o:Nat}{v:AD}(J:(e x)[o]?=some v):Ma h (id,i*z+o)=some v:=by
 have ho:=(List.getElem?_eq_some_iff.1 J).1;have h1:=LJ E T I o 1 (by rw[E.len]at ho;omega);unfold Av.Eb at h1;unfold Av.Ma;rw[h1,zY ho,(List.getElem?_eq_some_iff.1 J).2];rfl
theorem R8{A m B new:List AD}{o:Nat}(h:o+new.length<=m.length):Cu (A++(m++B)) (A.length+o) new=A++(Cu m o new++B):=by
 unfold Cu;have e1:(A++(m++B)).take (A.length+o)=A++m.take o:=by
  rw[yD,qy (by omega)]
 have e2:(A++(m++B)).drop (A.length+o+new.length)=m.drop (o+new.length)++B:=by
  rw[yo,yC,qz (by omega)]
 rw[e1,e2];simp[zR]
theorem HH.Sb(E:Ml e z)(a:HH g h L F)(k:Nat){r:Option Nat}{t:TypeId}{xs:List α}(D:L[k]?=some (.Af r t (Af e xs))){id:Nat}(er:r=some id){i:Nat}{x y:α}(I:xs[i]?=some x){o:Nat}{new:List AD}(M:Cu (e x) o new=e y)(h1:new.all AD.one=true)(hl:o+new.length<=z:=by decide):
  ∃h',Av.st g h (id,i*z+o) new=some h'/\HH g h' (L.set k (.Af r t (Af e (xs.set i y)))) F:=by
 have T:=a.row k D er;have hi:=(List.getElem?_eq_some_iff.1 I).1;have hid:=h.BZ T;have hle:(i+1)*z<=xs.length*z:=zU _ (by omega);rw[yj,qg]at hle;have hm:g.may id=true:=a.Pc D (by rw[er];simp[Ck.ids]);refine⟨h.set id (.cells (some t) 2 (Af e (xs.set i y))),?_,?_⟩
 ·unfold Av.st By;simp only[T];rw[zj ⟨hm,by rw[E.K9 xs];omega,h1⟩];congr 2;have hsplit:Af e xs=Af e (xs.take i)++(e x++Af e (xs.drop (i+1))):=by
   conv=>lhs;rw[<-zD i xs,zY hi,(List.getElem?_eq_some_iff.1 I).2]
   simp[Af]
  have hlen:(Af e (xs.take i)).length=i*z:=by rw[E.K9,yp,qE (by omega)]
  have hset:Af e (xs.set i y)=Af e (xs.take i)++(e y++Af e (xs.drop (i+1))):=by
   rw[yd,zj hi];simp[Af]
  rw[hsplit,hset,<-hlen,R8 (by rw[E.len];exact hl),M]
 ·subst er;refine a.Q7 D (by simp) (λj _ hj=>h.Cj _ hid (by simpa[Ck.ids]using hj)) (h.Cf _ hid) (λj hj=>.inl hj) (λj hj=>a.Pc D hj)
theorem Ka{h1:AE}{a:Nat×Nat}{cs:List AD}{n:Nat}(M:st g h a cs=some h1)(hl:cs.length=n):TS n g h a cs=some h1:=by unfold TS;rw[zj hl];exact M
def Xe(c:Int):Option UInt8:=if 0<=c/\c<=255 then some (UInt8.ofNat c.toNat)else none
theorem Wt{c:Int}{y:UInt8}(h:Xe c=some y):c=(y.toNat:Int):=by
 unfold Xe at h;split at h
 ·rename_i hc;injection h with h;subst h;have:(UInt8.ofNat c.toNat).toNat=c.toNat%256:=UInt8.toNat_ofNat';rw[this];omega
 ·cases h
theorem XP{C:Gf}{S:Self}{fr:Fr}{op:Op}{xs:List UInt8}(a:HH g h L F)(k:Nat){r:Option Nat}{t:TypeId}(D:L[k]?=some (.Af r t (Af eY xs)))(M:Ts C.P fr op=some ((DM r xs.length).r,xs.length)):BI C S g h fr op=some (.str xs,h):=by
 refine XJ (s:=DM r xs.length) M ?_;have hok:=a.mem D;unfold YK DM;cases r with
 |none=>
  have:Af eY xs=[]:=hok;have h1:=W1.K9 xs;rw[this]at h1;have:xs=[]:=zw (by simpa using h1.symm);subst this;rfl
 | some id=>
  have T:h.get id=some (.cells (some t) 2 (Af eY xs)):=hok;simp only[zf];by_cases Z:xs.length=0
  ·have:xs=[]:=zw Z;subst this;rw[zj Z,T];rfl
  ·rw[zk Z];unfold B2;simp only[T];have h1:=W1.K9 xs;rw[zj ⟨by simp,by rw[h1];omega⟩,yw,zM (by rw[h1];omega)];exact O2 xs
def Xf(bytes:Nat)(n:Int):Bool:=decide (0<=n/\n<=1099511627776/\bytes*n<=1099511627776)
theorem Of{x:α}:∀n,Cs (e x) n=Af e (List.replicate n x)
 |0=>rfl
 |n+1=>by rw[List.replicate_succ,Af,yl,Cs,Of n]
theorem Ul{C:Gf}{S:Self}{fr:Fr}{op:Op}{h1:AE}{t:TypeId}{bytes:Nat}{n:Int}{x:α}(E:Ml e z)(M:RI C.P fr op=some (t,bytes,e x,n,n))(G:Xf bytes n=true)(hh:some (h.push (.cells (some t) 2 (Af e (List.replicate n.toNat x))))=some h1):
  BI C S g h fr op=some (AR (some h.size) (List.replicate n.toNat x).length,h1):=by
 have G:=of_decide_eq_true G;have:=NQ (S:=S) (g:=g) M (cs:=Af e (List.replicate n.toNat x)) (by unfold NG;rw[zj ⟨G.1,zF _,G.2.1,G.2.2⟩,Of]) hh;rw[this,qO];rfl
end
section
variable {g:Gd} {h h':AE} {L F:List Ck}
theorem HH.Sr(a:HH g h L F)(n:Nat):HH g h (L.take n) F:=by
 have M:(EY (L.take n++F)).Sublist (EY (L++F)):=by
  rw[Dc,Dc];refine List.Sublist.append ?_ (List.Sublist.refl _)
  conv=>rhs;rw[<-zD n L,Dc]
  exact List.sublist_append_left _ _
 exact⟨λc hc=>a.ok c (by rcases zo.1 hc with h|h;exact zo.2 (.inl (qf h));exact zo.2 (.inr h)),a.nd.sublist M,
  λi hi=>a.may i (by rw[<-zD n L,Dc];exact zo.2 (.inl hi)),a.Bs,a.floor⟩
inductive S4(R:List Ck):List Nat->Prop where
 |nil:S4 R []
 |cons {p:Nat} {ps:List Nat} {c:Ck} (k:Nat):R[k]?=some c->p∈c.ids->S4 R ps->S4 R (p::ps)
theorem S4.mem{R:List Ck}{ps:List Nat}(h:S4 R ps):∀p∈ps,p∈EY R:=by
 induction h with
 |nil=>intro p hp;cases hp
 |cons k D hm _ ih=>
  intro p hp;rcases ye.1 hp with rfl|hp
  ·simp only[EY,yx];exact⟨_,zQ D,hm⟩
  ·exact ih p hp
theorem HH.KK(a:HH g h L F)(n:Nat){pr:List Nat}(hp:S4 (L.drop n) pr):HH ⟨g.floor,pr++g.Bs⟩ h (L.take n) (L.drop n++F):=by
 refine(a.cut n).Xb (λi hi hn=>?_) (λi hi=>?_)
 ·have h1:=hp.mem i hn;have O:=a.nd;rw[<-zD n L,Dc,Dc,zR,zZ]at O;exact O.2.2 i hi i (zo.2 (.inl h1)) rfl
 ·refine a.lt (i:=i) ?_;rw[<-zD n L,Dc,Dc];exact zo.2 (.inl (zo.2 (.inr (hp.mem i hi))))
theorem HH.Qj{pr:List Nat}{n:Nat}{L':List Ck}(a:HH g h L F)(b:HH ⟨g.floor,pr++g.Bs⟩ h' L' (L.drop n++F)):HH g h' (L'++L.drop n) F:=
 a.glue b (λi hm=>by
  simp only[Gd.may,zg,zu,qD,zJ]at hm⊢
  exact⟨hm.1,hm.2.2⟩) (λi hi=>zo.2 (.inr hi)) rfl
end
section
variable {C:Gf} {g:Gd} {h:AE} {f:FuncId}
theorem RA{args:List AD}{n:Nat}{rs:List ResultVar}{R:AD->AE->Prop}(Y:IF C.P f=some (n,rs))
  (hh:AW C f g (Hp C.P f) (args++List.replicate (n - args.length) (.tuple [])) h (λe fr h'=>(e=.ret\/e=.normal)/\∃v,Kk C.P rs fr h'=some v/\R v h')):∃v h',JX C g h f args v h'/\R v h':=by
 obtain⟨m,e,fr',O,I,⟨hq,v,J,hR⟩⟩:=hh.ex;exact⟨v,O,KU Y ⟨⟨m,e,fr',O,I,⟨hq,J,rfl⟩⟩⟩,hR⟩
theorem W2{args args':List AD}{n:Nat}{rs:List ResultVar}{R:AD->AE->Prop}(D:C.kind f=1)(hc:CB (C.still f) args=args')(Y:IF C.P f=some (n,rs))
  (hh:AW C f g (Hp C.P f) (args'++List.replicate (n - args'.length) (.tuple [])) h (λe fr h'=>(e=.ret\/e=.normal)/\∃v,Kk C.P rs fr h'=some v/\R v h')):∃v h',Bw C g h f args v h'/\R v h':=by
 obtain⟨v,h',G,hR⟩:=RA Y hh;exact⟨v,h',PK D hc G,hR⟩
theorem Ww{args args':List AD}{n:Nat}{rs:List ResultVar}{R:AD->AE->Prop}(D:C.kind f=7)(hc:CB (C.still f) args=args')(Y:IF C.P f=some (n,rs))
  (hh:AW C f g (Hp C.P f) (args'++List.replicate (n - args'.length) (.tuple [])) h (λe fr h'=>(e=.ret\/e=.normal)/\∃v,Kk C.P rs fr h'=some v/\∃v' h'',Pd g h' v=some (v',h'')/\R v' h'')):∃v h',Bw C g h f args v h'/\R v h':=by
 obtain⟨v,h',G,v',h'',Q,hR⟩:=RA Y hh;exact⟨v',h'',XO D hc G Q,hR⟩
theorem YA{P:Program}{fr:Fr}{N:Nat}{l:List (Nat×AD)}{rs:List ResultVar}{v:AD}(H:Has fr N l)(hr:∀fr,Kk P rs (Cy N l fr) h=some v):Kk P rs fr h=some v:=by
 have:=hr fr;rwa [EB H]at this
theorem X9{fr:Fr}{N:Nat}{l:List (Nat×AD)}{t:Nat}{v:AD}(H:Has fr N l)(hr:∀fr,nth (Cy N l fr) t=v):nth fr t=v:=by
 have:=hr fr;rwa [EB H]at this
end
section
variable {g:Gd} {h:AE}
theorem Ru(vs:List AD):Pd g h (.tuple vs)=(Ny (N9 g) vs h).map λr=>(.tuple r.1,r.2):=rfl
theorem SH(cs:List AD):Pd g h (.agg cs)=(Ny (Ij g) cs h).map λr=>(.agg r.1,r.2):=rfl
theorem R1(r:Option Nat)(n:Nat):Pd g h (AR r n)=Ij g h (AR r n):=rfl
theorem R9(n:Nat)(cs:List AD):Pd g h (.JV n cs)=some (.JV n cs,h):=rfl
theorem R6(cs:List AD):N9 g h (.agg cs)=(Ny (Ij g) cs h).map λr=>(.agg r.1,r.2):=rfl
theorem SE(r:Option Nat)(n:Nat):N9 g h (AR r n)=Ij g h (AR r n):=rfl
theorem Rc(n:Nat)(cs:List AD):N9 g h (.JV n cs)=some (.JV n cs,h):=rfl
theorem Rr(k:IntKind)(n:Int):N9 g h (.int k n)=some (.int k n,h):=rfl
theorem RU(b:Bool):N9 g h (.bool b)=some (.bool b,h):=rfl
theorem R2(s:List UInt8):N9 g h (.str s)=some (.str s,h):=rfl
theorem SK:N9 g h (.slice none 0)=some (.JV 0 [],h):=rfl
theorem Rg(f:AE->AD->Option (AD×AE)):Ny f [] h=some ([],h):=rfl
theorem Ry(f:AE->AD->Option (AD×AE))(v:AD)(vs:List AD):Ny f (v::vs) h=(match f h v with|some (v',h1)=>(Ny f vs h1).map λr=>(v'::r.1,r.2)|none=>none):=rfl
theorem Ro(k:IntKind)(n:Int):Ij g h (.int k n)=some (.int k n,h):=rfl
theorem RY(b:Bool):Ij g h (.bool b)=some (.bool b,h):=rfl
theorem Rv(s:List UInt8):Ij g h (.str s)=some (.str s,h):=rfl
theorem Rq(n:Nat)(cs:List AD):Ij g h (.JV n cs)=some (.JV n cs,h):=rfl
theorem RX:Ij g h (.slice none 0)=some (.JV 0 [],h):=rfl
end
def V3:List (Nat×List Bool)->Nat->List Bool
 |[],_=>[]
 |(a,b)::l,f=>bif Nat.beq a f then b else V3 l f
end Go.Av
end
/-
 A part.
-/
section
namespace Go.Av
open Go.RowKit Go.ChangeShapes Go.WideShapes
set_option linter.unusedVariables false
def Ub:List AD->Option AD
 |[a]=>some a
 |_=>none
def toArg(P:Program)(t:TypeId)(cs:List AD):Option AD:=
 match P.underlying t with
 |some (.struct _)|some (.array _ _)=>some (.agg cs)
 |some .bool|some (.int _)|some .string|some (.pointer _)|some (.slice _)|some (.map _ _)|some (.interface _)=>Ub cs
 |_=>none
def mW(W:World):BU:=⟨λ_=>none,λg o=>match W.heap[g]? with|some (.cells cur _ _)=>cur[o]?|_=>none,λ_=>False⟩
section
variable {H:Type} {enc:TypeId×Value->H} {P:Program} {W:World}
theorem Wd:Rel P W (mW W) ⟨0,.leaf⟩ W:=by
 refine⟨Below.refl _ _,λid E hE=>by simp[mW]at hE,λid E o hE=>by simp[mW]at hE,λid E o hE=>by simp[mW]at hE,λid id' E E' o o' _ hE=>by simp[mW]at hE,λg o v J=>?_,λid E o hE=>by simp[mW]at hE,λg T=>T.elim,λid E o hE=>by simp[mW]at hE⟩;simp only[mW]at J;split at J
 ·rename_i cur e z hc;exact⟨cur,e,z,hc,J⟩
 ·cases J
end
structure Ux(P:Program){α:Type}(t:TypeId)(e:α->List AD)(ok:α->Prop):Prop where
 h:∀{H:Type} {enc:TypeId×Value->H} {W:World} {held:Bool} (fuel:Nat) (cs:List Value) (d:DataW H) (ps:List MemPlace),DataW.trod enc P W 0 (λ_=>true) held fuel t cs=some (d,ps)->∃x,B5 (mW W) (e x) cs/\ok x
section
variable {P:Program}
theorem YV{t:TypeId}(hu:P.underlying t=some .bool):Ux P t eB (λ_=>True):=.mk λ{H enc W held} fuel cs d ps ht=>by
 cases fuel with
 |zero=>simp[DataW.trod]at ht
 |succ fuel=>
  unfold DataW.trod at ht;rw[hu]at ht;split at ht<;>first|contradiction|cases ‹(some (_:TypeDesc))=some _›
  rename_i b;exact⟨b,.cons (.bool _) (.nil _),trivial⟩
def YF(x:List UInt8):Prop:=x.length<=9223372036854775807
theorem Xm{t:TypeId}(hu:P.underlying t=some .string):Ux P t eS YF:=.mk λ{H enc W held} fuel cs d ps ht=>by
 cases fuel with
 |zero=>simp[DataW.trod]at ht
 |succ fuel=>
  unfold DataW.trod at ht;rw[hu]at ht;split at ht<;>first|contradiction|cases ‹(some (_:TypeDesc))=some _›
  rename_i s;split at ht<;>try contradiction
  rename_i D;exact⟨s.data.toList,.cons (.str _) (.nil _),D⟩
end
section
variable {H:Type} {enc:TypeId×Value->H} {P:Program} {W:World}
theorem PS{t:TypeId}{v:Value}{base:Nat}(J:Value.okWide P W .any base t v){m:BU}{cs:List AD}{a:AD}(hc:B5 m cs v.cells.toList)(U:toArg P t cs=some a):VR m a v:=by
 have one:∀{w:Value},v=w->w.cells.toList=[w]->Ub cs=some a->VR m a v:=by
  intro w hw hcells I;subst hw;rw[hcells]at hc;unfold Ub at I;split at I
  ·injection I with I;subst I;exact hc.2 0 _ _ rfl rfl
  ·cases I
 unfold toArg at U;split at U
 ·rename_i hu;obtain⟨c,hce,_⟩:=okWide_struct hu J;subst hce;injection U with U;subst U;exact B5.agg hc
 ·rename_i hu;unfold Value.okWide at J;rw[hu]at J;obtain⟨c,hce,_⟩:=J;subst hce;injection U with U;subst U;exact B5.agg hc
 ·rename_i hu;obtain⟨b,G⟩:=okWide_bool hu J;exact one G rfl U
 ·rename_i hu;obtain⟨b,G⟩:=okWide_int hu J;exact one G rfl U
 ·rename_i hu;obtain⟨b,G⟩:=okWide_string hu J;exact one G rfl U
 ·rename_i hu;obtain⟨b,G⟩:=okWide_pointer hu J;exact one G rfl U
 ·rename_i hu;obtain⟨b,c,d,G⟩:=okWide_slice hu J;exact one G rfl U
 ·rename_i hu;obtain⟨b,G⟩:=okWide_map hu J;exact one G rfl U
 ·rename_i hu;rcases okWide_iface hu J with G|⟨u,x,G⟩
  ·exact one G rfl U
  ·exact one G rfl U
 ·cases U
theorem Ms(hl:laidOutB P=true){W':World}(G:Below W.heap.size W W'):∀(ts:List TypeId) (vs:List Value) (ds:List (DataW H)) (ps:List MemPlace),(∀t∈ts,P.readableRec t=true/\t<P.types.size)->
  DataW.TrodAll enc P W 0 (λ_=>true) true ts vs ds ps->(∀x∈ps,x.block<W.heap.size)->DataW.TrodAll enc P W' 0 (λb=>decide (b<W.heap.size)) true ts vs ds ps
 |[],vs,ds,ps,_,hA,_=>by
  obtain⟨rfl,rfl,rfl⟩:=trodAll_nil hA;rfl
 |t::ts,vs,ds,ps,hr,hA,hlt=>by
  obtain⟨v,vs',d,ds',p,q,rfl,rfl,rfl,Z,r0⟩:=trodAll_cons hA;have h1:=hr t (by simp);exact trodAll_cons_mk (Below.trod hl h1.1 h1.2 Z G λx I=>hlt x (by simp[I])) (Ms hl G ts vs' ds' q (λt ht=>hr t (by simp[ht])) r0 λx I=>hlt x (by simp[I]))
theorem TA {C:Gf} (hC:Ie C) (Q:CL C.C4 W) (hl:laidOutB C.P=true) {f:FuncId} {fn:Func} {c:Code} (hfn:C.P.funcs[f]?=some fn) (hn:(fn.name=="runtime.NumGoroutine")=false) (G:fn.body=some c)
  (hts:∀t∈fn.params.toList,C.P.readableRec t=true/\t<C.P.types.size) {tb:TypeId} (hrt:fn.resultTypes=#[tb]) (hub:C.P.underlying tb=some .bool)
  {s:ChangeSpec} (hvars:s.vars=[]) {args:Array Value} {ds gs:List (DataW H)} {before:List MemPlace} (X:s.fn H (ds++[])={results:=[.lit (.bool true)],args:=ds})
  (hW:DataW.Whole enc C.P fn.params.toList s.vars false W args.toList ds gs before)
  {av:List AD} (hvs:B5 (mW W) av args.toList) {h':AE} (hrun:Bw C ⟨0,[]⟩ ⟨0,.leaf⟩ f av (.bool true) h'):
  Calls C.P f args W λe W'=>∃v,e=.returned v/\s.post enc C.P fn false true false false W args v W':=by
 have hW':=hW;obtain⟨p,q,hA0,hV,rfl,hfz,hnd⟩:=hW;rw[hvars]at hV;have hV':gs=[]/\q=[]:=by cases gs<;>simp[DataW.TrodVars]at hV<;>simp[hV]
 obtain⟨rfl,rfl⟩:=hV';obtain⟨n,hn'⟩:=hrun;refine(SL hC (n:=n) hn' hfn hn G Q Wd hvs).mono λe W' ⟨v',he,m',_,hr',hv'⟩=>?_;subst he;have ev:v'=.bool true:=by cases hv';rfl
 subst ev;have bel:=hr'.below;have hlt:∀x∈p,x.block<W.heap.size:=λx I=>by simpa using hW'.lt x (by simpa using I)
 refine⟨_,rfl,ds,[],p++[],[],p,[],hW',?_,?_,?_,bel.frame _,λh=>by cases h⟩
 ·rw[X,hrt];exact trodAll_mk1 (shut_bool hub _)
 ·rw[X];exact Ms hl bel _ _ _ _ hts hA0 hlt
 ·rw[X,hvars];rfl
theorem HH.start:HH ⟨0,[]⟩ ⟨0,.leaf⟩ [] []:=⟨λc hc=>(by cases hc),by simp[EY],λi hi=>(by simp[EY]at hi),λi hi=>(by cases hi),zq _⟩
end
end Go.Av
end
/-
 A part.
-/
section
namespace Go.Av
open Go.RowKit
set_option linter.unusedVariables false
def idxOf(s:List UInt8)(c:UInt8):Int:=match(List.range s.length).find? λi=>s[i]?==some c with|some i=>(i:Int)|none=> -1
def Lt(h:AE):List AD->Option (AD×AE)
 |[.str s,.int .u8 c]=>if 0<=c/\c<=255 then some (.int .i64 (idxOf s (UInt8.ofNat c.toNat)),h)else none
 |_=>none
theorem P0{α:Type}{p q:α->Bool}:∀(l:List α),(∀x∈l,p x=q x)->l.find? p=l.find? q
 |[],_=>rfl
 |x::l,h=>by rw[List.find?_cons,List.find?_cons,h x (by simp),P0 l λy hy=>h y (by simp[hy])]
theorem idx_eq(s:List UInt8)(c:UInt8):((List.range (⟨⟨s⟩⟩:ByteArray).size).find? λi=>(⟨⟨s⟩⟩:ByteArray)[i]! ==c)=(List.range s.length).find? λi=>s[i]?==some c:=by
 refine P0 _ λi hi=>?_;have hi:i<s.length:=by have:=yq.1 hi;exact this
 have:(⟨⟨s⟩⟩:ByteArray)[i]! =s[i]:=getElem!_pos (⟨⟨s⟩⟩:ByteArray) i hi;rw[this,List.getElem?_eq_getElem hi];rfl
def KM(s:List UInt8)(c:Int):Option Int:=if 0<=c/\c<=255 then some (idxOf s (UInt8.ofNat c.toNat))else none
end Go.Av
end
/-
 A part.
-/
section
namespace Go.Av
set_option linter.unusedVariables false
set_option linter.unusedSimpArgs false
theorem IZ(b c:Bool):Aj b (some c) (some false)=some (b&&c):=by cases b<;>rfl
def XW{α β:Type}(o:Option α)(f:α->Option β)(n:Option β):Option β:=match o with|some x=>f x|none=>n
theorem TQ{α β:Type}{o:Option α}{f:α->Option β}{n:Option β}{b:β}(h:XW o f n=some b):(∃x,o=some x/\f x=some b)\/(o=none/\n=some b):=by
 cases o with
 |some x=>exact .inl ⟨x,rfl,h⟩
 |none=>exact .inr ⟨rfl,h⟩
structure TE(P:Program)(t:TypeId){K:Type}[DecidableEq K](ek:K->AD):Prop where
 ok:∀x,G8 P 20 t (ek x)=true
 eq:∀x y,Hb P 10000 t (ek x) (ek y)=some (decide (x=y))
 same:∀x,Mm (ek x) (ek x)=true
section
variable {K V:Type} [DecidableEq K]
def Jc:List (K×V)->K->Option V
 |[],_=>none
 |(k',v)::r,k=>if k=k' then some v else Jc r k
def Li:List (K×V)->K->V->List (K×V)
 |[],k,v=>[(k,v)]
 |(k',v')::r,k,v=>if k=k' then(k,v)::r else(k',v')::Li r k v
def Rm:List (K×V)->K->List (K×V)
 |[],_=>[]
 |(k',v')::r,k=>if k=k' then r else(k',v')::Rm r k
def D4(ek:K->AD)(ev:V->AD)(m:List (K×V)):List (AD×AD):=m.map λp=>(ek p.1,ev p.2)
variable {P:Program} {t kt et:TypeId} {ek:K->AD} {ev:V->AD} {g:Gd} {h:AE} {L F:List Ck}
theorem Lf(E:TE P kt ek)(k:K)(v:V):∀(m:List (K×V)) (i:Nat),
  (FN P kt (ek k) (D4 ek ev m) i=some none/\Jc m k=none/\D4 ek ev (Li m k v)=D4 ek ev m++[(ek k,ev v)]/\Rm m k=m)\/
  (∃j w,FN P kt (ek k) (D4 ek ev m) i=some (some (i+j,ev w))/\Jc m k=some w/\(D4 ek ev m)[j]?=some (ek k,ev w)/\D4 ek ev (Li m k v)=(D4 ek ev m).set j (ek k,ev v)/\D4 ek ev (Rm m k)=(D4 ek ev m).eraseIdx j)
 |[],i=>.inl ⟨rfl,rfl,rfl,rfl⟩
 | (k',v')::r,i=>by
  have e1:D4 ek ev ((k',v')::r)=(ek k',ev v')::D4 ek ev r:=rfl;rw[e1,FN,E.eq];by_cases D:k=k'
  ·subst D;refine .inr ⟨0,v',?_,?_,rfl,?_,?_⟩
   ·simp
   ·simp[Jc]
   ·simp[Li,D4]
   ·simp[Rm]
  ·rw[zN D];rcases Lf E k v r (i+1)with⟨h1,O,h3,h4⟩|⟨j,w,h1,O,h3,h4,h5⟩
   ·refine .inl ⟨h1,?_,?_,?_⟩
    ·rw[Jc,zk D];exact O
    ·rw[Li,zk D];show(ek k',ev v')::D4 ek ev (Li r k v)=_;rw[h3];rfl
    ·rw[Rm,zk D,h4]
   ·refine .inr ⟨j+1,w,?_,?_,?_,?_,?_⟩
    ·dsimp only;rw[h1];simp;omega
    ·rw[Jc,zk D];exact O
    ·rw[List.getElem?_cons_succ];exact h3
    ·rw[Li,zk D];show(ek k',ev v')::D4 ek ev (Li r k v)=_;rw[h4];rfl
    ·rw[Rm,zk D];show(ek k',ev v')::D4 ek ev (Rm r k)=_;rw[h5];rfl
theorem HH.YL(E:TE P kt ek)(a:HH g h L F)(n:Nat){id:Nat}{m:List (K×V)}(D:L[n]?=some (.obj id (.map 2 (D4 ek ev m))))(hu:P.underlying t=some (.map kt et))(k:K)(v:V)(Q:Ij g h (ev v)=some (ev v,h):=by rfl):
  ∃h',XE P g h t (some id) (ek k) (ev v)=some h'/\HH g h' (L.set n (.obj id (.map 2 (D4 ek ev (Li m k v))))) F:=by
 have T:=a.get n D;have hm:g.may id=true:=a.Pc D (by simp[Ck.ids]);refine⟨h.set id (.map 2 (D4 ek ev (Li m k v))),?_,a.set n _ D⟩;unfold XE Ht;rw[Q];show Le P g h t (.map (some id)) (ek k) (ev v)=_;unfold Le;rw[hu];simp only[E.ok,hm,and_self,if_true,T];rcases Lf (ev:=ev) E k v m 0 with⟨h1,O,h3,_⟩|⟨j,w,h1,O,h3,h4,_⟩
 ·rw[h1,h3]
 ·rw[h1];simp only[qt,h3,E.same,if_true,h4]
theorem HH.XL(E:TE P kt ek){r:Option Nat}{e:TypeId}{cs:List AD}{q z:Nat}(a:HH g h (.Af r e cs::L) F)(n:Nat){id:Nat}{m:List (K×V)}(D:L[n]?=some (.obj id (.map 2 (D4 ek ev m))))(hu:P.underlying t=some (.map kt et))(k:K)(v:V)
  (hn:cs.length=q*z) (Q:z≠0) (hq:q≠0) (J:ev v=.JV q cs):
  ∃h',XE P g h t (some id) (ek k) (AR r q)=some h'/\HH g h' (L.set n (.obj id (.map 2 (D4 ek ev (Li m k v))))) F/\Ij g h' (AR r q)=some (ev v,h'):=by
 have Z:(Ck.Af r e cs::L)[0]?=some (.Af r e cs):=rfl;cases r with
 |none=>
  exfalso;have hc:cs=[]:=a.mem Z;subst hc;have h1:q*z=0:=by simpa using hn.symm
  rcases ym.1 h1 with h|h
  ·exact hq h
  ·exact Q h
 | some i=>
  have T:h.get i=some (.cells (some e) 2 cs):=a.mem Z;have hid:=h.BZ T;have G:Nat.beq q 0=false:=by cases q;exact absurd rfl hq;rfl
  obtain⟨c,cs',hcs⟩:∃c cs',cs=c::cs':=by
   cases cs with
   |nil=>
    exfalso;have h1:q*z=0:=by simpa using hn.symm
    rcases ym.1 h1 with h|h
    ·exact hq h
    ·exact Q h
   |cons c cs'=>exact⟨c,cs',rfl⟩
  have Y:Ij g h (AR (some i) q)=some (.JV q cs,h.set i (.cells (some e) 0 cs)):=by
   simp only[AR,Ij,zf,G,yh,T,a.Pc Z (i:=i) (by simp[Ck.ids]),z0]
  have b:=a.Q7 (d:=.obj i (.cells (some e) 0 cs)) (h':=h.set i (.cells (some e) 0 cs)) Z (by simp) (λj _ hi=>h.Cj _ hid (by simpa[Ck.ids]using hi)) (h.Cf _ hid)
   (λj hj=>.inl (by simpa[Ck.ids]using hj)) (λj hj=>a.Pc Z (by simpa[Ck.ids]using hj))
  have b':HH g (h.set i (.cells (some e) 0 cs)) (.obj i (.cells (some e) 0 cs)::L) F:=b;have hz1:Ij g (h.set i (.cells (some e) 0 cs)) (ev v)=some (ev v,h.set i (.cells (some e) 0 cs)):=by rw[J];rfl
  obtain⟨h',I,c1⟩:=HH.YL (P:=P) (t:=t) (kt:=kt) (et:=et) (ev:=ev) E b' (n+1) D hu k v hz1;have g1:h'.get i=some (.cells (some e) 0 cs):=c1.get 0 rfl;refine⟨h',?_,?_,?_⟩
  ·unfold XE Ht at I⊢;rw[hz1]at I;rw[Y];rw[J]at I;exact I
  ·have:(Ck.obj i (.cells (some e) 0 cs)::L).set (n+1) (.obj id (.map 2 (D4 ek ev (Li m k v))))=.obj i (.cells (some e) 0 cs)::L.set n (.obj id (.map 2 (D4 ek ev (Li m k v)))):=rfl;rw[this]at c1;exact c1.tail
  ·rw[J];simp only[AR,Ij,zf,G,yh,g1];rw[hcs];rfl
theorem HH.Wy(E:TE P kt ek)(a:HH g h L F)(n:Nat){id:Nat}{m:List (K×V)}(D:L[n]?=some (.obj id (.map 2 (D4 ek ev m))))(hu:P.underlying t=some (.map kt et)){zv:AD}(Q:GN P et=some zv){k:K}{v:V}(Y:Jc m k=some v):
  Vo P h t (some id) (ek k)=some (ev v,true):=by
 have T:=a.get n D;unfold Vo;rw[hu];simp only[E.ok,if_true,XZ,T];rw[zj (by decide)];dsimp only;rcases Lf (ev:=ev) E k v m 0 with⟨h1,O,_,_⟩|⟨j,w,h1,O,_,_,_⟩
 ·rw[O]at Y;cases Y
 ·rw[O]at Y;cases Y;rw[h1]
theorem HH.WL(E:TE P kt ek)(a:HH g h L F)(n:Nat){id:Nat}{m:List (K×V)}(D:L[n]?=some (.obj id (.map 2 (D4 ek ev m))))(hu:P.underlying t=some (.map kt et)){zv:AD}(Q:GN P et=some zv){k:K}(Y:Jc m k=none):
  Vo P h t (some id) (ek k)=some (zv,false):=by
 have T:=a.get n D;unfold Vo;rw[hu];simp only[E.ok,if_true,XZ,T];rw[zj (by decide)];dsimp only;cases hm:m with
 |nil=>simp[D4,FN,Q]
 |cons p r=>
  rw[<-hm];rcases Lf (ev:=ev) E k p.2 m 0 with⟨h1,O,_,_⟩|⟨j,w,h1,O,_,_,_⟩
  ·rw[h1];simp[Q]
  ·rw[O]at Y;cases Y
end
end Go.Av
end
