/-
 A part.
-/
import Derived.Test.YtgkbpgefomapgaaGreatDoorAvHH
set_option linter.unusedSimpArgs false
namespace Go.Av
set_option linter.unusedVariables false
structure L9{α:Type}(e:α->List AE)(z:Nat):Prop where
 len:∀x,(e x).length=z
 one:∀x,(e x).all AE.one=true
 can:∀x,(e x).map II=e x
abbrev AP{α:Type}(e:α->List AE)(xs:List α):List AE:=xs.flatMap e
abbrev vs{α:Type}(e:α->List AE)(xs:List α):AE:=.Jd xs.length (AP e xs)
def eI(k:IntKind)(x:Int):List AE:=[.int k x]
def eB(x:Bool):List AE:=[.bool x]
def eS(x:List UInt8):List AE:=[.str x]
def eY(x:UInt8):List AE:=[.int .u8 x.toNat]
def eL{α:Type}(e:α->List AE)(xs:List α):List AE:=[vs e xs]
theorem encI(k:IntKind):L9 (eI k) 1:=⟨λ_=>rfl,λ_=>rfl,λ_=>rfl⟩
theorem Ej:L9 eB 1:=⟨λ_=>rfl,λ_=>rfl,λ_=>rfl⟩
theorem encS:L9 eS 1:=⟨λ_=>rfl,λ_=>rfl,λ_=>rfl⟩
theorem Lr:L9 eY 1:=⟨λ_=>rfl,λ_=>rfl,λ_=>rfl⟩
theorem ZQ{α:Type}(e:α->List AE):L9 (eL e) 1:=⟨λ_=>rfl,λ_=>rfl,λ_=>rfl⟩
section
variable {α:Type} {e:α->List AE} {z:Nat}
theorem L9.Ij(E:L9 e z):∀xs:List α,(AP e xs).length=xs.length*z
 |[]=>by simp
 |x::xs=>by simp only[AP,ya,zq,E.len,zD];rw[show(List.flatMap e xs).length=xs.length*z from E.Ij xs,yh];omega
theorem L9.X2(E:L9 e z)(xs:List α):(AP e xs).all AE.one=true:=by
 rw[zF];intro v M;obtain⟨x,_,I⟩:=ym.1 M;exact zF.1 (E.one x) v I
theorem L9.Bf(E:L9 e z):∀xs:List α,(AP e xs).map II=AP e xs
 |[]=>rfl
 |x::xs=>by simp only[AP,ya,yp,E.can];rw[show(List.flatMap e xs).map II=_ from E.Bf xs]
theorem L9.drop(E:L9 e z):∀(xs:List α) (n:Nat),(AP e xs).drop (n*z)=AP e (xs.drop n)
 |[],n=>by simp
 |x::xs,0=>by simp
 |x::xs,n+1=>by
  simp only[AP,ya,qo];rw[yh,qB,Nat.add_comm,<-E.len x,yA,E.len x];exact E.drop xs n
theorem L9.at_(E:L9 e z){xs:List α}{i:Nat}{x:α}(h:xs[i]?=some x):((AP e xs).drop (i*z)).take z=e x:=by
 obtain⟨hi,I⟩:=List.getElem?_eq_some_iff.1 h;rw[E.drop,zE hi,I];simp only[AP,ya];rw[<-E.len x,yX]
end
def FT{α:Type}(xs:List α)(i:Int):Option α:=if 0<=i then xs[i.toNat]? else none
def RN{α:Type}(xs:List α)(lo hi:Option Int):Option (List α):=(VI xs.length lo hi).map λp=>(xs.drop p.1).take (p.2 - p.1)
section
variable (P:Program) (fr:Fr)
def Y0:Op->Option (Nat×List AE×Nat×Int)
 | .indexAddr t x i=>
  match P.underlying t,ev fr x,ev fr i with
  |some (.slice e),.Jd n cs,.int _ i=>(Dn P e).map λz=>(n,cs,z,i)
  |_,_,_=>none
 |_=>none
def aS:Op->Option AE
 | .load t a=>
  match ev fr a with
  | .BL cs=>Im P (some (.cells none 1 cs)) t 0
  |_=>none
 |_=>none
end
section
variable {C:J8} {S:Self} {g:Gd} {h h1:AS} {fr:Fr} {op:Op} {α:Type} {e:α->List AE} {z:Nat}
theorem Ge{xs:List α}{i:Int}{x:α}(E:L9 e z)(K:z≠0)(D:Y0 C.P fr op=some (xs.length,AP e xs,z,i))(O:FT xs i=some x):CC C S g h fr op=some (.BL (e x),h):=by
 unfold Y0 at D;split at D
 ·rename_i t y j;split at D
  ·rename_i el n cs k i' hu M hi;simp only[zg,ze]at D;obtain⟨z',hz',rfl,rfl,rfl,rfl⟩:=D;unfold FT at O;split at O
   ·rename_i h0;have hlt:=(List.getElem?_eq_some_iff.1 O).1;rw[J3 (by simp[Br])];simp only[J7,Br,KZ,M,hi,IC,hu];rw[zk ⟨h0,by omega⟩,hz',za,zk ⟨E.Ij xs,K⟩,E.at_ O];rfl
   ·cases O
  ·cases D
 ·cases D
theorem FA{v:AE}(D:aS C.P fr op=some v):CC C S g h fr op=some (v,h):=by
 unfold aS at D;split at D
 ·split at D
  ·rename_i cs M;rw[J3 (by simp[Br])];simp only[J7,Br,Es,M,Gb,MJ,D,zf]
  ·cases D
 ·cases D
theorem Qg:∀l:List UInt8,bytesOf (AP eY l)=some l
 |[]=>rfl
 |b::l=>by
  simp only[AP,ya,eY,yN,bytesOf];rw[show bytesOf (List.flatMap eY l)=some l from Qg l];simp
end
section
variable {g:Gd} {h:AS} {L F:List Ck} {α:Type} {e:α->List AE} {z:Nat}
theorem HH.to{h':AS}(a:HH g h L F)(e:h'=h):HH g h' L F:=e ▸ a
theorem HH.Zf(E:L9 e z)(K:z≠0)(a:HH g h L F)(k:Nat){r:Option Nat}{t:TypeId}{xs:List α}(G:L[k]?=some (.AP r t (AP e xs))):Du h z xs.length (AH r xs.length)=some (AP e xs):=Bz a k G (E.Ij xs) K
theorem Sv(E:L9 e z)(h:AS)(xs:List α):Du h z xs.length (vs e xs)=some (AP e xs):=by
 unfold Du vs;simp only;rw[zk ⟨zo _,E.Ij xs⟩,zU (by rw[E.Ij xs];exact zo _)]
theorem Uk(h:AS)(s:List UInt8):Du h 1 s.length (.str s)=some (AP eY s):=by
 unfold Du;simp only[if_true,qe];congr 1
 induction s with
 |nil=>rfl
 |cons b s ih=>simp[AP,eY];simpa[AP,eY]using ih
def J5(bytes n:Nat):Bool:=decide (n<=1099511627776/\n*bytes<=1099511627776)
theorem HH.Iv(E:L9 e z)(K:z≠0)(a:HH g h L F)(k:Nat){r:Option Nat}{t:TypeId}{xs ys:List α}{new:List AE}{bytes m:Nat}{x:AE}(G:L[k]?=some (.AP r t (AP e xs)))(I:Du h z m x=some new)(hc:new.map II=AP e ys)(hm:m=ys.length)(J:J5 bytes (xs.length+m)=true):
  ∃r' h',Av.app t z bytes g h (Ca r xs.length) m x=some (Ca r' (xs++ys).length,h')/\HH g h' (L.set k (.AP r' t (AP e (xs++ys)))) F:=by
 subst hm;obtain⟨r',h',h1,U⟩:=a.app k G (E.Ij xs) K I hc (E.Ij ys) (of_decide_eq_true J) (E.X2 xs) (E.X2 ys);refine⟨r',h',by rw[h1,zq],?_⟩;have:AP e (xs++ys)=AP e xs++AP e ys:=by simp[AP]
 rw[this];exact U
theorem HH.Lc(E:L9 e z)(K:z≠0)(a:HH g h L F)(k:Nat){r:Option Nat}{t:TypeId}{xs:List α}(G:L[k]?=some (.AP r t (AP e xs))){i:Int}{x:α}(hi:FT xs i=some x):
  ∃id,r=some id/\h.get id=some (.cells (some t) 2 (AP e xs))/\aB (Ca r xs.length) z i=some (id,i.toNat*z)/\xs[i.toNat]?=some x:=by
 unfold FT at hi;split at hi
 ·rename_i h0;have hlt:=(List.getElem?_eq_some_iff.1 hi).1;cases r with
  |none=>
   have hn:AP e xs=[]:=a.mem G;exfalso;have h1:=E.Ij xs;rw[hn]at h1;have U:xs.length*z=0:=by simpa using h1.symm
   rcases yj.1 U with h|h
   ·omega
   ·exact K h
  |some id=>
   refine⟨id,rfl,a.mem G,?_,hi⟩;simp only[Ca,zf,aB];rw[YB,zk ⟨h0,by omega⟩];simp
 ·cases hi
theorem HH.row(a:HH g h L F)(k:Nat){r:Option Nat}{t:TypeId}{cs:List AE}(G:L[k]?=some (.AP r t cs)){id:Nat}(er:r=some id):h.get id=some (.cells (some t) 2 cs):=by
 subst er;exact a.mem G
theorem M5(E:L9 e z){id:Nat}{gr:Option TypeId}{xs:List α}(T:h.get id=some (.cells gr 2 (AP e xs))){i:Nat}{x:α}(I:xs[i]?=some x)(o n:Nat)(hon:o+n<=z):G7 h (id,i*z+o) n=some (((e x).drop o).take n):=by
 have hi:=(List.getElem?_eq_some_iff.1 I).1;have hle:(i+1)*z<=xs.length*z:=yi _ (by omega);rw[yh,qB]at hle;unfold Av.G7 Dy;simp only[T];rw[zk ⟨by simp,by rw[E.Ij xs];omega⟩,<-E.at_ I,<-yB];congr 1;generalize (AP e xs).drop (i*z)=l;rw[List.drop_take,List.take_take,Nat.min_eq_left (by omega)]
theorem FM(E:L9 e z){id:Nat}{gr:Option TypeId}{xs:List α}(T:h.get id=some (.cells gr 2 (AP e xs))){i:Nat}{x:α}(I:xs[i]?=some x){o:Nat}{v:AE}(M:(e x)[o]?=some v):SW h (id,i*z+o)=some v:=by
 have ho:=(List.getElem?_eq_some_iff.1 M).1;have h1:=M5 E T I o 1 (by rw[E.len]at ho;omega);unfold Av.G7 at h1;unfold Av.SW;rw[h1,zE ho,(List.getElem?_eq_some_iff.1 M).2];rfl
theorem U9{A m B new:List AE}{o:Nat}(h:o+new.length<=m.length):Fz (A++(m++B)) (A.length+o) new=A++(Fz m o new++B):=by
 unfold Fz;have e1:(A++(m++B)).take (A.length+o)=A++m.take o:=by
  rw[yU,qC (by omega)]
 have e2:(A++(m++B)).drop (A.length+o+new.length)=m.drop (o+new.length)++B:=by
  rw[zZ,yA,yQ (by omega)]
 rw[e1,e2];simp[zO]
theorem HH.Th(E:L9 e z)(a:HH g h L F)(k:Nat){r:Option Nat}{t:TypeId}{xs:List α}(G:L[k]?=some (.AP r t (AP e xs))){id:Nat}(er:r=some id){i:Nat}{x y:α}(I:xs[i]?=some x){o:Nat}{new:List AE}(D:Fz (e x) o new=e y)(h1:new.all AE.one=true)(O:o+new.length<=z:=by decide):
  ∃h',Av.st g h (id,i*z+o) new=some h'/\HH g h' (L.set k (.AP r t (AP e (xs.set i y)))) F:=by
 have T:=a.row k G er;have hi:=(List.getElem?_eq_some_iff.1 I).1;have hid:=h.D6 T;have hle:(i+1)*z<=xs.length*z:=yi _ (by omega);rw[yh,qB]at hle;have hm:g.may id=true:=a.Px G (by rw[er];simp[Ck.ids]);refine⟨h.set id (.cells (some t) 2 (AP e (xs.set i y))),?_,?_⟩
 ·unfold Av.st Ef;simp only[T];rw[zk ⟨hm,by rw[E.Ij xs];omega,h1⟩];congr 2;have hsplit:AP e xs=AP e (xs.take i)++(e x++AP e (xs.drop (i+1))):=by
   conv=>lhs;rw[<-zC i xs,zE hi,(List.getElem?_eq_some_iff.1 I).2]
   simp[AP]
  have hlen:(AP e (xs.take i)).length=i*z:=by rw[E.Ij,zP,Nat.min_eq_left (by omega)]
  have hset:AP e (xs.set i y)=AP e (xs.take i)++(e y++AP e (xs.drop (i+1))):=by
   rw[yc,zk hi];simp[AP]
  rw[hsplit,hset,<-hlen,U9 (by rw[E.len];exact O),D]
 ·subst er;refine a.SV G (by simp) (λj _ Z=>h.EW _ hid (by simpa[Ck.ids]using Z)) (h.Fm _ hid) (λj Z=>.inl Z) (λj Z=>a.Px G Z)
theorem Jk{h1:AS}{a:Nat×Nat}{cs:List AE}{n:Nat}(D:st g h a cs=some h1)(O:cs.length=n):bI n g h a cs=some h1:=by unfold bI;rw[zk O];exact D
theorem ZT(s:List UInt8):(s.map λb=>AE.int .u8 b.toNat)=AP eY s:=by
 induction s with
 |nil=>rfl
 |cons b s ih=>simp[AP,eY]at *;exact ih
def Oj(c:Int):Option UInt8:=if 0<=c/\c<=255 then some (UInt8.ofNat c.toNat)else none
theorem MN{c:Int}{y:UInt8}(h:Oj c=some y):c=(y.toNat:Int):=by
 unfold Oj at h;split at h
 ·rename_i hc;injection h with h;subst h;have:(UInt8.ofNat c.toNat).toNat=c.toNat%256:=UInt8.toNat_ofNat';rw[this];omega
 ·cases h
theorem Qn{C:J8}{S:Self}{fr:Fr}{op:Op}{xs:List UInt8}(a:HH g h L F)(k:Nat){r:Option Nat}{t:TypeId}(G:L[k]?=some (.AP r t (AP eY xs)))(D:XN C.P fr op=some ((Ca r xs.length).r,xs.length)):CC C S g h fr op=some (.str xs,h):=by
 refine au (s:=Ca r xs.length) D ?_;have Y:=a.mem G;unfold bh Ca;cases r with
 |none=>
  have:AP eY xs=[]:=Y;have h1:=Lr.Ij xs;rw[this]at h1;have:xs=[]:=zt (by simpa using h1.symm);subst this;rfl
 | some id=>
  have T:h.get id=some (.cells (some t) 2 (AP eY xs)):=Y;simp only[zf];by_cases h0:xs.length=0
  ·have:xs=[]:=zt h0;subst this;rw[zk h0,T];rfl
  ·rw[zm h0];unfold Dy;simp only[T];have h1:=Lr.Ij xs;rw[zk ⟨by simp,by rw[h1];omega⟩,yn,zU (by rw[h1];omega)];exact Qg xs
def YD(bytes:Nat)(n:Int):Bool:=decide (0<=n/\n<=1099511627776/\bytes*n<=1099511627776)
theorem PZ{x:α}:∀n,G2 (e x) n=AP e (List.replicate n x)
 |0=>rfl
 |n+1=>by rw[List.replicate_succ,AP,ya,G2,PZ n]
theorem TM{C:J8}{S:Self}{fr:Fr}{op:Op}{h1:AS}{t:TypeId}{bytes:Nat}{n:Int}{x:α}(E:L9 e z)(D:YJ C.P fr op=some (t,bytes,e x,n,n))(J:YD bytes n=true)(Q:some (h.push (.cells (some t) 2 (AP e (List.replicate n.toNat x))))=some h1):
  CC C S g h fr op=some (AH (some h.size) (List.replicate n.toNat x).length,h1):=by
 have J:=of_decide_eq_true J;have:=az (S:=S) (g:=g) D (cs:=AP e (List.replicate n.toNat x)) (by unfold bL;rw[zk ⟨J.1,zN _,J.2.1,J.2.2⟩,PZ]) Q;rw[this,qj];rfl
end
section
variable {g:Gd} {h h':AS} {L F:List Ck}
theorem HH.Ru(a:HH g h L F)(n:Nat):HH g h (L.take n) F:=by
 have D:(Et (L.take n++F)).Sublist (Et (L++F)):=by
  rw[EA,EA];refine List.Sublist.append ?_ (List.Sublist.refl _)
  conv=>rhs;rw[<-zC n L,EA]
  exact List.sublist_append_left _ _
 exact⟨λc hc=>a.ok c (by rcases zp.1 hc with h|h;exact zp.2 (.inl (yP h));exact zp.2 (.inr h)),a.nd.sublist D,
  λi hi=>a.may i (by rw[<-zC n L,EA];exact zp.2 (.inl hi)),a.Bb,a.floor⟩
inductive Wa(R:List Ck):List Nat->Prop where
 |nil:Wa R []
 |cons {p:Nat} {ps:List Nat} {c:Ck} (k:Nat):R[k]?=some c->p∈c.ids->Wa R ps->Wa R (p::ps)
theorem Wa.mem{R:List Ck}{ps:List Nat}(h:Wa R ps):∀p∈ps,p∈Et R:=by
 induction h with
 |nil=>intro p V;cases V
 |cons k G hm _ ih=>
  intro p V;rcases zT.1 V with rfl|V
  ·simp only[Et,ym];exact⟨_,zI G,hm⟩
  ·exact ih p V
theorem HH.Gc(a:HH g h L F)(n:Nat){pr:List Nat}(V:Wa (L.drop n) pr):HH ⟨g.floor,pr++g.Bb⟩ h (L.take n) (L.drop n++F):=by
 refine(a.cut n).a7 (λi hi hn=>?_) (λi hi=>?_)
 ·have h1:=V.mem i hn;have U:=a.nd;rw[<-zC n L,EA,EA,zO,z8]at U;exact U.2.2 i hi i (zp.2 (.inl h1)) rfl
 ·refine a.lt (i:=i) ?_;rw[<-zC n L,EA,EA];exact zp.2 (.inl (zp.2 (.inr (V.mem i hi))))
theorem HH.Q6{pr:List Nat}{n:Nat}{L':List Ck}(a:HH g h L F)(b:HH ⟨g.floor,pr++g.Bb⟩ h' L' (L.drop n++F)):HH g h' (L'++L.drop n) F:=
 a.glue b (λi hm=>by
  simp only[Gd.may,zj,zK,qH,zG]at hm⊢
  exact⟨hm.1,hm.2.2⟩) (λi hi=>zp.2 (.inr hi)) rfl
end
section
variable {C:J8} {g:Gd} {h:AS} {f:FuncId}
theorem QF{args:List AE}{n:Nat}{rs:List ResultVar}{R:AE->AS->Prop}(W:Jx C.P f=some (n,rs))
  (Q:AW C f g (NT C.P f) (args++List.replicate (n - args.length) (.tuple [])) h (λe fr h'=>(e=.ret\/e=.normal)/\∃v,NF C.P rs fr h'=some v/\R v h')):∃v h',O6 C g h f args v h'/\R v h':=by
 obtain⟨m,e,fr',U,I,⟨hq,v,M,X⟩⟩:=Q.ex;exact⟨v,U,YV W ⟨⟨m,e,fr',U,I,⟨hq,M,rfl⟩⟩⟩,X⟩
theorem Zs{args args':List AE}{n:Nat}{rs:List ResultVar}{R:AE->AS->Prop}(G:C.kind f=1)(hc:Bf (C.still f) args=args')(W:Jx C.P f=some (n,rs))
  (Q:AW C f g (NT C.P f) (args'++List.replicate (n - args'.length) (.tuple [])) h (λe fr h'=>(e=.ret\/e=.normal)/\∃v,NF C.P rs fr h'=some v/\R v h')):∃v h',Bm C g h f args v h'/\R v h':=by
 obtain⟨v,h',J,X⟩:=QF W Q;exact⟨v,h',ae G hc J,X⟩
theorem Z4{args args':List AE}{n:Nat}{rs:List ResultVar}{R:AE->AS->Prop}(G:C.kind f=7)(hc:Bf (C.still f) args=args')(W:Jx C.P f=some (n,rs))
  (Q:AW C f g (NT C.P f) (args'++List.replicate (n - args'.length) (.tuple [])) h (λe fr h'=>(e=.ret\/e=.normal)/\∃v,NF C.P rs fr h'=some v/\∃v' h'',RO g h' v=some (v',h'')/\R v' h'')):∃v h',Bm C g h f args v h'/\R v h':=by
 obtain⟨v,h',J,v',h'',K,X⟩:=QF W Q;exact⟨v',h'',ax G hc J K,X⟩
theorem Z1{args args':List AE}{n:Nat}{rs:List ResultVar}{R:AE->AS->Prop}(G:C.kind f=9)(hc:Bf (C.still f) args=args')(W:Jx C.P f=some (n,rs))
  (Q:AW C f g (NT C.P f) (args'++List.replicate (n - args'.length) (.tuple [])) h (λe fr h'=>(e=.ret\/e=.normal)/\∃v,NF C.P rs fr h'=some v/\∃v' h'',Tj g h' v=some (v',h'')/\R v' h'')):∃v h',Bm C g h f args v h'/\R v h':=by
 obtain⟨v,h',J,v',h'',K,X⟩:=QF W Q;exact⟨v',h'',aG G hc J K,X⟩
theorem bz{P:Program}{fr:Fr}{N:Nat}{l:List (Nat×AE)}{rs:List ResultVar}{v:AE}(H:Has fr N l)(hr:∀fr,NF P rs (EO N l fr) h=some v):NF P rs fr h=some v:=by
 have:=hr fr;rwa [HU H]at this
theorem bX{fr:Fr}{N:Nat}{l:List (Nat×AE)}{t:Nat}{v:AE}(H:Has fr N l)(hr:∀fr,nth (EO N l fr) t=v):nth fr t=v:=by
 have:=hr fr;rwa [HU H]at this
end
section
variable {g:Gd} {h:AS}
theorem Na(vs:List AE):RO g h (.tuple vs)=(KC (O2 g) vs h).map λr=>(.tuple r.1,r.2):=rfl
theorem No(cs:List AE):RO g h (.agg cs)=(KC (Gy g) cs h).map λr=>(.agg r.1,r.2):=rfl
theorem NV(r:Option Nat)(n:Nat):RO g h (AH r n)=Gy g h (AH r n):=rfl
theorem NZ(n:Nat)(cs:List AE):RO g h (.Jd n cs)=some (.Jd n cs,h):=rfl
theorem NW(cs:List AE):O2 g h (.agg cs)=(KC (Gy g) cs h).map λr=>(.agg r.1,r.2):=rfl
theorem NY(r:Option Nat)(n:Nat):O2 g h (AH r n)=Gy g h (AH r n):=rfl
theorem Nl(n:Nat)(cs:List AE):O2 g h (.Jd n cs)=some (.Jd n cs,h):=rfl
theorem Ns(k:IntKind)(n:Int):O2 g h (.int k n)=some (.int k n,h):=rfl
theorem Nk(b:Bool):O2 g h (.bool b)=some (.bool b,h):=rfl
theorem Nu(s:List UInt8):O2 g h (.str s)=some (.str s,h):=rfl
theorem Ny:O2 g h (.slice none 0)=some (.Jd 0 [],h):=rfl
theorem Hb(f:AS->AE->Option (AE×AS)):KC f [] h=some ([],h):=rfl
theorem Hf(f:AS->AE->Option (AE×AS))(v:AE)(vs:List AE):KC f (v::vs) h=(match f h v with|some (v',h1)=>(KC f vs h1).map λr=>(v'::r.1,r.2)|none=>none):=rfl
theorem Ha(k:IntKind)(n:Int):Gy g h (.int k n)=some (.int k n,h):=rfl
theorem HZ(b:Bool):Gy g h (.bool b)=some (.bool b,h):=rfl
theorem Hi(s:List UInt8):Gy g h (.str s)=some (.str s,h):=rfl
theorem HY(n:Nat)(cs:List AE):Gy g h (.Jd n cs)=some (.Jd n cs,h):=rfl
theorem Hd:Gy g h (.slice none 0)=some (.Jd 0 [],h):=rfl
end
def ZG:List (Nat×List Bool)->Nat->List Bool
 |[],_=>[]
 |(a,b)::l,f=>bif Nat.beq a f then b else ZG l f
end Go.Av
