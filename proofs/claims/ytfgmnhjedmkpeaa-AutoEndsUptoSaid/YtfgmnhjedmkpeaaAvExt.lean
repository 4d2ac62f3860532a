/-
  Several texts in one.
-/
import Derived.Test.YtfgmnhjedmkpeaaAvHH
set_option linter.unusedSimpArgs false
/-
 A part.
-/
section
namespace Go.Av
set_option linter.unusedVariables false
structure Kf{α:Type}(e:α->List AA)(z:Nat):Prop where
 len:∀x,(e x).length=z
 one:∀x,(e x).all AA.one=true
 can:∀x,(e x).map GU=e x
abbrev Ag{α:Type}(e:α->List AA)(xs:List α):List AA:=xs.flatMap e
abbrev vs{α:Type}(e:α->List AA)(xs:List α):AA:=.Gi xs.length (Ag e xs)
def eI(k:IntKind)(x:Int):List AA:=[.int k x]
def eB(x:Bool):List AA:=[.bool x]
def eS(x:List UInt8):List AA:=[.str x]
def eY(x:UInt8):List AA:=[.int .u8 x.toNat]
def eL{α:Type}(e:α->List AA)(xs:List α):List AA:=[vs e xs]
theorem encI(k:IntKind):Kf (eI k) 1:=⟨λ_=>rfl,λ_=>rfl,λ_=>rfl⟩
theorem Pw:Kf eB 1:=⟨λ_=>rfl,λ_=>rfl,λ_=>rfl⟩
theorem Wm:Kf eY 1:=⟨λ_=>rfl,λ_=>rfl,λ_=>rfl⟩
section
variable {α:Type} {e:α->List AA} {z:Nat}
theorem Kf.Jc(E:Kf e z):∀xs:List α,(Ag e xs).length=xs.length*z
 |[]=>by simp
 |x::xs=>by simp only[Ag,yp,zA,E.len,zT];rw[show(List.flatMap e xs).length=xs.length*z from E.Jc xs,yl];omega
theorem Kf.T2(E:Kf e z)(xs:List α):(Ag e xs).all AA.one=true:=by
 rw[zC];intro v J;obtain⟨x,_,I⟩:=yb.1 J;exact zC.1 (E.one x) v I
theorem Kf.C1(E:Kf e z):∀xs:List α,(Ag e xs).map GU=Ag e xs
 |[]=>rfl
 |x::xs=>by simp only[Ag,yp,yy,E.can];rw[show(List.flatMap e xs).map GU=_ from E.C1 xs]
theorem Kf.take(E:Kf e z):∀(xs:List α) (n:Nat),(Ag e xs).take (n*z)=Ag e (xs.take n)
 |[],n=>by simp
 |x::xs,0=>by simp
 |x::xs,n+1=>by
  simp only[Ag,yp,ql];rw[yl,qi,qu,<-E.len x,yE,E.len x];congr 1;exact E.take xs n
theorem Kf.drop(E:Kf e z):∀(xs:List α) (n:Nat),(Ag e xs).drop (n*z)=Ag e (xs.drop n)
 |[],n=>by simp
 |x::xs,0=>by simp
 |x::xs,n+1=>by
  simp only[Ag,yp,qk];rw[yl,qi,qu,<-E.len x,yD,E.len x];exact E.drop xs n
theorem Kf.at_(E:Kf e z){xs:List α}{i:Nat}{x:α}(h:xs[i]?=some x):((Ag e xs).drop (i*z)).take z=e x:=by
 obtain⟨G,I⟩:=List.getElem?_eq_some_iff.1 h;rw[E.drop,zS G,I];simp only[Ag,yp];rw[<-E.len x,qJ]
end
def Iz{α:Type}(xs:List α)(i:Int):Option α:=if 0<=i then xs[i.toNat]? else none
def Nr{α:Type}(xs:List α)(lo G:Option Int):Option (List α):=(Ry xs.length lo G).map λp=>(xs.drop p.1).take (p.2 - p.1)
section
variable (P:Program) (fr:Fr)
def VZ:Op->Option (Nat×List AA×Nat×Int)
 | .indexAddr t x i=>
  match P.underlying t,ev fr x,ev fr i with
  |some (.slice e),.Gi n cs,.int _ i=>(BK P e).map λz=>(n,cs,z,i)
  |_,_,_=>none
 |_=>none
def Xy:Op->Option AA
 | .load t a=>
  match ev fr a with
  | .Bu cs=>DT P (some (.cells none 1 cs)) t 0
  |_=>none
 |_=>none
end
section
variable {C:Eu} {S:Self} {g:Gd} {h h1:AB} {fr:Fr} {op:Op} {α:Type} {e:α->List AA} {z:Nat}
theorem Lp{xs:List α}{i:Int}{x:α}(E:Kf e z)(T:z≠0)(K:VZ C.P fr op=some (xs.length,Ag e xs,z,i))(Q:Iz xs i=some x):Ap C S g h fr op=some (.Bu (e x),h):=by
 unfold VZ at K;split at K
 ·rename_i t y j;split at K
  ·rename_i el n cs k i' hu J G;simp only[zg,zb]at K;obtain⟨z',hz',rfl,rfl,rfl,rfl⟩:=K;unfold Iz at Q;split at Q
   ·rename_i O;have U:=(List.getElem?_eq_some_iff.1 Q).1;rw[Fa (by simp[AX])];simp only[Fp,AX,FA,J,G,DJ,hu];rw[zk ⟨O,by omega⟩,hz',zd,zk ⟨E.Jc xs,T⟩,E.at_ Q];rfl
   ·cases Q
  ·cases K
 ·cases K
theorem L9{v:AA}(K:Xy C.P fr op=some v):Ap C S g h fr op=some (v,h):=by
 unfold Xy at K;split at K
 ·split at K
  ·rename_i cs J;rw[Fa (by simp[AX])];simp only[Fp,AX,B1,J,CM,Gh,K,ze]
  ·cases K
 ·cases K
theorem NH:∀l:List UInt8,bytesOf (Ag eY l)=some l
 |[]=>rfl
 |b::l=>by
  simp only[Ag,yp,eY,yR,bytesOf];rw[show bytesOf (List.flatMap eY l)=some l from NH l];simp
end
section
variable {g:Gd} {h:AB} {L F:List Ck} {α:Type} {e:α->List AA} {z:Nat}
theorem HH.Vw(E:Kf e z)(T:z≠0)(a:HH g h L F)(k:Nat){r:Option Nat}{t:TypeId}{xs:List α}(M:L[k]?=some (.Ag r t (Ag e xs))):Bv h z xs.length (AY r xs.length)=some (Ag e xs):=EI a k M (E.Jc xs) T
theorem Wn(E:Kf e z)(h:AB)(xs:List α):Bv h z xs.length (vs e xs)=some (Ag e xs):=by
 unfold Bv vs;simp only;rw[zk ⟨zr _,E.Jc xs⟩,zV (by rw[E.Jc xs];exact zr _)]
def O0(bytes n:Nat):Bool:=decide (n<=1099511627776/\n*bytes<=1099511627776)
theorem HH.Ov(E:Kf e z)(T:z≠0)(a:HH g h L F)(k:Nat){r:Option Nat}{t:TypeId}{xs ys:List α}{new:List AA}{bytes m:Nat}{x:AA}(M:L[k]?=some (.Ag r t (Ag e xs)))(I:Bv h z m x=some new)(hc:new.map GU=Ag e ys)(hm:m=ys.length)(D:O0 bytes (xs.length+m)=true):
  ∃r' h',Av.app t z bytes g h (Dt r xs.length) m x=some (Dt r' (xs++ys).length,h')/\HH g h' (L.set k (.Ag r' t (Ag e (xs++ys)))) F:=by
 subst hm;obtain⟨r',h',h1,h2⟩:=a.app k M (E.Jc xs) T I hc (E.Jc ys) (of_decide_eq_true D) (E.T2 xs) (E.T2 ys);refine⟨r',h',by rw[h1,zA],?_⟩;have:Ag e (xs++ys)=Ag e xs++Ag e ys:=by simp[Ag]
 rw[this];exact h2
theorem HH.Ow(E:Kf e z)(T:z≠0)(a:HH g h L F)(k:Nat){r:Option Nat}{t:TypeId}{xs:List α}(M:L[k]?=some (.Ag r t (Ag e xs))){i:Int}{x:α}(G:Iz xs i=some x):
  ∃id,r=some id/\h.get id=some (.cells (some t) 2 (Ag e xs))/\H0 (Dt r xs.length) z i=some (id,i.toNat*z)/\xs[i.toNat]?=some x:=by
 unfold Iz at G;split at G
 ·rename_i O;have U:=(List.getElem?_eq_some_iff.1 G).1;cases r with
  |none=>
   have hn:Ag e xs=[]:=a.mem M;exfalso;have h1:=E.Jc xs;rw[hn]at h1;have h2:xs.length*z=0:=by simpa using h1.symm
   rcases yC.1 h2 with h|h
   ·omega
   ·exact T h
  |some id=>
   refine⟨id,rfl,a.mem M,?_,G⟩;simp only[Dt,ze,H0];rw[Qv,zk ⟨O,by omega⟩];simp
 ·cases G
theorem HH.row(a:HH g h L F)(k:Nat){r:Option Nat}{t:TypeId}{cs:List AA}(M:L[k]?=some (.Ag r t cs)){id:Nat}(er:r=some id):h.get id=some (.cells (some t) 2 cs):=by
 subst er;exact a.mem M
theorem Uj(E:Kf e z){id:Nat}{gr:Option TypeId}{xs:List α}(Z:h.get id=some (.cells gr 2 (Ag e xs))){i:Nat}{x:α}(I:xs[i]?=some x)(o n:Nat)(hon:o+n<=z):Gp h (id,i*z+o) n=some (((e x).drop o).take n):=by
 have G:=(List.getElem?_eq_some_iff.1 I).1;have hle:(i+1)*z<=xs.length*z:=yr _ (by omega);rw[yl,qi]at hle;unfold Av.Gp BQ;simp only[Z];rw[zk ⟨by simp,by rw[E.Jc xs];omega⟩,<-E.at_ I,<-yN];congr 1;generalize (Ag e xs).drop (i*z)=l;rw[List.drop_take,List.take_take,qH (by omega)]
theorem Fb(E:Kf e z){id:Nat}{gr:Option TypeId}{xs:List α}(Z:h.get id=some (.cells gr 2 (Ag e xs))){i:Nat}{x:α}(I:xs[i]?=some x){o:Nat}{v:AA}(J:(e x)[o]?=some v):Jy h (id,i*z+o)=some v:=by
 have ho:=(List.getElem?_eq_some_iff.1 J).1;have h1:=Uj E Z I o 1 (by rw[E.len]at ho;omega);unfold Av.Gp at h1;unfold Av.Jy;rw[h1,zS ho,(List.getElem?_eq_some_iff.1 J).2];rfl
theorem QY{A m B new:List AA}{o:Nat}(h:o+new.length<=m.length):CN (A++(m++B)) (A.length+o) new=A++(CN m o new++B):=by
 unfold CN;have e1:(A++(m++B)).take (A.length+o)=A++m.take o:=by
  rw[yE,List.take_append_of_le_length (by omega)]
 have e2:(A++(m++B)).drop (A.length+o+new.length)=m.drop (o+new.length)++B:=by
  rw[yq,yD,List.drop_append_of_le_length (by omega)]
 rw[e1,e2];simp[zU]
theorem HH.Yw(E:Kf e z)(a:HH g h L F)(k:Nat){r:Option Nat}{t:TypeId}{xs:List α}(M:L[k]?=some (.Ag r t (Ag e xs))){id:Nat}(er:r=some id){i:Nat}{x y:α}(I:xs[i]?=some x){o:Nat}{new:List AA}(K:CN (e x) o new=e y)(h1:new.all AA.one=true)(Q:o+new.length<=z:=by decide):
  ∃h',Av.st g h (id,i*z+o) new=some h'/\HH g h' (L.set k (.Ag r t (Ag e (xs.set i y)))) F:=by
 have Z:=a.row k M er;have G:=(List.getElem?_eq_some_iff.1 I).1;have hid:=h.Ar Z;have hle:(i+1)*z<=xs.length*z:=yr _ (by omega);rw[yl,qi]at hle;have hm:g.may id=true:=a.PZ M (by rw[er];simp[Ck.ids]);refine⟨h.set id (.cells (some t) 2 (Ag e (xs.set i y))),?_,?_⟩
 ·unfold Av.st BN;simp only[Z];rw[zk ⟨hm,by rw[E.Jc xs];omega,h1⟩];congr 2;have hsplit:Ag e xs=Ag e (xs.take i)++(e x++Ag e (xs.drop (i+1))):=by
   conv=>lhs;rw[<-zG i xs,zS G,(List.getElem?_eq_some_iff.1 I).2]
   simp[Ag]
  have hlen:(Ag e (xs.take i)).length=i*z:=by rw[E.Jc,yG,qH (by omega)]
  have UR:Ag e (xs.set i y)=Ag e (xs.take i)++(e y++Ag e (xs.drop (i+1))):=by
   rw[yn,zk G];simp[Ag]
  rw[hsplit,UR,<-hlen,QY (by rw[E.len];exact Q),K]
 ·subst er;refine a.Pj M (by simp) (λj _ hj=>h.Bw _ hid (by simpa[Ck.ids]using hj)) (h.B0 _ hid) (λj hj=>.inl hj) (λj hj=>a.PZ M hj)
theorem Sm{h1:AB}{a:Nat×Nat}{cs:List AA}{n:Nat}(K:st g h a cs=some h1)(Q:cs.length=n):SA n g h a cs=some h1:=by unfold SA;rw[zk Q];exact K
def Xm(c:Int):Option UInt8:=if 0<=c/\c<=255 then some (UInt8.ofNat c.toNat)else none
theorem WY{c:Int}{y:UInt8}(h:Xm c=some y):c=(y.toNat:Int):=by
 unfold Xm at h;split at h
 ·rename_i hc;injection h with h;subst h;have:(UInt8.ofNat c.toNat).toNat=c.toNat%256:=UInt8.toNat_ofNat';rw[this];omega
 ·cases h
theorem YE{C:Eu}{S:Self}{fr:Fr}{op:Op}{xs:List UInt8}(a:HH g h L F)(k:Nat){r:Option Nat}{t:TypeId}(M:L[k]?=some (.Ag r t (Ag eY xs)))(K:Tf C.P fr op=some ((Dt r xs.length).r,xs.length)):Ap C S g h fr op=some (.str xs,h):=by
 refine YH (s:=Dt r xs.length) K ?_;have hok:=a.mem M;unfold Y9 Dt;cases r with
 |none=>
  have:Ag eY xs=[]:=hok;have h1:=Wm.Jc xs;rw[this]at h1;have:xs=[]:=zi (by simpa using h1.symm);subst this;rfl
 | some id=>
  have Z:h.get id=some (.cells (some t) 2 (Ag eY xs)):=hok;simp only[ze];by_cases O:xs.length=0
  ·have:xs=[]:=zi O;subst this;rw[zk O,Z];rfl
  ·rw[zh O];unfold BQ;simp only[Z];have h1:=Wm.Jc xs;rw[zk ⟨by simp,by rw[h1];omega⟩,yv,zV (by rw[h1];omega)];exact NH xs
def ZB(bytes:Nat)(n:Int):Bool:=decide (0<=n/\n<=1099511627776/\bytes*n<=1099511627776)
theorem Md{x:α}:∀n,CK (e x) n=Ag e (List.replicate n x)
 |0=>rfl
 |n+1=>by rw[List.replicate_succ,Ag,yp,CK,Md n]
theorem Yx{C:Eu}{S:Self}{fr:Fr}{op:Op}{h1:AB}{t:TypeId}{bytes:Nat}{n:Int}{x:α}(E:Kf e z)(K:PT C.P fr op=some (t,bytes,e x,n,n))(D:ZB bytes n=true)(hh:some (h.push (.cells (some t) 2 (Ag e (List.replicate n.toNat x))))=some h1):
  Ap C S g h fr op=some (AY (some h.size) (List.replicate n.toNat x).length,h1):=by
 have D:=of_decide_eq_true D;have:=Lo (S:=S) (g:=g) K (cs:=Ag e (List.replicate n.toNat x)) (by unfold OC;rw[zk ⟨D.1,Int.le_refl _,D.2.1,D.2.2⟩,Md]) hh;rw[this,List.length_replicate];rfl
end
section
variable {g:Gd} {h h':AB} {L F:List Ck}
theorem HH.RF(a:HH g h L F)(n:Nat):HH g h (L.take n) F:=by
 have K:(DZ (L.take n++F)).Sublist (DZ (L++F)):=by
  rw[Cv,Cv];refine List.Sublist.append ?_ (List.Sublist.refl _)
  conv=>rhs;rw[<-zG n L,Cv]
  exact List.sublist_append_left _ _
 exact⟨λc hc=>a.ok c (by rcases zm.1 hc with h|h;exact zm.2 (.inl (qh h));exact zm.2 (.inr h)),a.nd.sublist K,
  λi G=>a.may i (by rw[<-zG n L,Cv];exact zm.2 (.inl G)),a.B4,a.floor⟩
inductive Rt(R:List Ck):List Nat->Prop where
 |nil:Rt R []
 |cons {p:Nat} {ps:List Nat} {c:Ck} (k:Nat):R[k]?=some c->p∈c.ids->Rt R ps->Rt R (p::ps)
theorem Rt.mem{R:List Ck}{ps:List Nat}(h:Rt R ps):∀p∈ps,p∈DZ R:=by
 induction h with
 |nil=>intro p hp;cases hp
 |cons k M hm _ ih=>
  intro p hp;rcases zP.1 hp with rfl|hp
  ·simp only[DZ,yb];exact⟨_,zI M,hm⟩
  ·exact ih p hp
theorem HH.Pp(a:HH g h L F)(n:Nat){pr:List Nat}(hp:Rt (L.drop n) pr):HH ⟨g.floor,pr++g.B4⟩ h (L.take n) (L.drop n++F):=by
 refine(a.cut n).X6 (λi G hn=>?_) (λi G=>?_)
 ·have h1:=hp.mem i hn;have h2:=a.nd;rw[<-zG n L,Cv,Cv,zU,yd]at h2;exact h2.2.2 i G i (zm.2 (.inl h1)) rfl
 ·refine a.lt (i:=i) ?_;rw[<-zG n L,Cv,Cv];exact zm.2 (.inl (zm.2 (.inr (hp.mem i G))))
theorem HH.RI{pr:List Nat}{n:Nat}{L':List Ck}(a:HH g h L F)(b:HH ⟨g.floor,pr++g.B4⟩ h' L' (L.drop n++F)):HH g h' (L'++L.drop n) F:=
 a.glue b (λi hm=>by
  simp only[Gd.may,zf,zx,qG,zH]at hm⊢
  exact⟨hm.1,hm.2.2⟩) (λi G=>zm.2 (.inr G)) rfl
end
section
variable {C:Eu} {g:Gd} {h:AB} {f:FuncId}
theorem Mp{args:List AA}{n:Nat}{rs:List ResultVar}{R:AA->AB->Prop}(hf:GC C.P f=some (n,rs))
  (hh:AW C f g (A7 C.P f) (args++List.replicate (n - args.length) (.tuple [])) h (λe fr h'=>(e=.ret\/e=.normal)/\∃v,IZ C.P rs fr h'=some v/\R v h')):∃v h',GP C g h f args v h'/\R v h':=by
 obtain⟨m,e,fr',h2,I,⟨hq,v,J,hR⟩⟩:=hh.ex;exact⟨v,h2,Ik hf ⟨⟨m,e,fr',h2,I,⟨hq,J,rfl⟩⟩⟩,hR⟩
theorem Ws{args args':List AA}{n:Nat}{rs:List ResultVar}{R:AA->AB->Prop}(M:C.kind f=1)(hc:C1 (C.still f) args=args')(hf:GC C.P f=some (n,rs))
  (hh:AW C f g (A7 C.P f) (args'++List.replicate (n - args'.length) (.tuple [])) h (λe fr h'=>(e=.ret\/e=.normal)/\∃v,IZ C.P rs fr h'=some v/\R v h')):∃v h',CW C g h f args v h'/\R v h':=by
 obtain⟨v,h',D,hR⟩:=Mp hf hh;exact⟨v,h',Mz M hc D,hR⟩
theorem WZ{args args':List AA}{n:Nat}{rs:List ResultVar}{R:AA->AB->Prop}(M:C.kind f=7)(hc:C1 (C.still f) args=args')(hf:GC C.P f=some (n,rs))
  (hh:AW C f g (A7 C.P f) (args'++List.replicate (n - args'.length) (.tuple [])) h (λe fr h'=>(e=.ret\/e=.normal)/\∃v,IZ C.P rs fr h'=some v/\∃v' h'',ND g h' v=some (v',h'')/\R v' h'')):∃v h',CW C g h f args v h'/\R v h':=by
 obtain⟨v,h',D,v',h'',T,hR⟩:=Mp hf hh;exact⟨v',h'',Yd M hc D T,hR⟩
theorem Vn{args args':List AA}{n:Nat}{rs:List ResultVar}{R:AA->AB->Prop}(M:C.kind f=9)(hc:C1 (C.still f) args=args')(hf:GC C.P f=some (n,rs))
  (hh:AW C f g (A7 C.P f) (args'++List.replicate (n - args'.length) (.tuple [])) h (λe fr h'=>(e=.ret\/e=.normal)/\∃v,IZ C.P rs fr h'=some v/\∃v' h'',Ox g h' v=some (v',h'')/\R v' h'')):∃v h',CW C g h f args v h'/\R v h':=by
 obtain⟨v,h',D,v',h'',T,hR⟩:=Mp hf hh;exact⟨v',h'',Xl M hc D T,hR⟩
theorem Zc{P:Program}{fr:Fr}{N:Nat}{l:List (Nat×AA)}{rs:List ResultVar}{v:AA}(H:Has fr N l)(hr:∀fr,IZ P rs (Cr N l fr) h=some v):IZ P rs fr h=some v:=by
 have:=hr fr;rwa [Dh H]at this
theorem Zi{fr:Fr}{N:Nat}{l:List (Nat×AA)}{t:Nat}{v:AA}(H:Has fr N l)(hr:∀fr,nth (Cr N l fr) t=v):nth fr t=v:=by
 have:=hr fr;rwa [Dh H]at this
end
section
variable {g:Gd} {h:AB}
theorem ZV(vs:List AA):ND g h (.tuple vs)=(KE (MC g) vs h).map λr=>(.tuple r.1,r.2):=rfl
theorem Za(cs:List AA):ND g h (.agg cs)=(KE (HB g) cs h).map λr=>(.agg r.1,r.2):=rfl
theorem ZF(r:Option Nat)(n:Nat):ND g h (AY r n)=HB g h (AY r n):=rfl
theorem ZH(n:Nat)(cs:List AA):ND g h (.Gi n cs)=some (.Gi n cs,h):=rfl
theorem Ze(cs:List AA):MC g h (.agg cs)=(KE (HB g) cs h).map λr=>(.agg r.1,r.2):=rfl
theorem Zn(r:Option Nat)(n:Nat):MC g h (AY r n)=HB g h (AY r n):=rfl
theorem ZW(n:Nat)(cs:List AA):MC g h (.Gi n cs)=some (.Gi n cs,h):=rfl
theorem ZT(k:IntKind)(n:Int):MC g h (.int k n)=some (.int k n,h):=rfl
theorem ZN(b:Bool):MC g h (.bool b)=some (.bool b,h):=rfl
theorem Zl(s:List UInt8):MC g h (.str s)=some (.str s,h):=rfl
theorem Zr:MC g h (.slice none 0)=some (.Gi 0 [],h):=rfl
theorem RP(f:AB->AA->Option (AA×AB)):KE f [] h=some ([],h):=rfl
theorem R4(f:AB->AA->Option (AA×AB))(v:AA)(vs:List AA):KE f (v::vs) h=(match f h v with|some (v',h1)=>(KE f vs h1).map λr=>(v'::r.1,r.2)|none=>none):=rfl
theorem Rp(k:IntKind)(n:Int):HB g h (.int k n)=some (.int k n,h):=rfl
theorem Rq(b:Bool):HB g h (.bool b)=some (.bool b,h):=rfl
theorem R9(s:List UInt8):HB g h (.str s)=some (.str s,h):=rfl
theorem Rr(n:Nat)(cs:List AA):HB g h (.Gi n cs)=some (.Gi n cs,h):=rfl
theorem R0:HB g h (.slice none 0)=some (.Gi 0 [],h):=rfl
end
def VK:List (Nat×List Bool)->Nat->List Bool
 |[],_=>[]
 |(a,b)::l,f=>bif Nat.beq a f then b else VK l f
end Go.Av
end
/-
 A part.
-/
section
namespace Go.Av
open Go.RowKit Go.ChangeShapes Go.WideShapes
set_option linter.unusedVariables false
def PQ(P:Program):List Field->Nat->Nat->Bool
 |[],o,n=>Nat.beq o n
 |f::fs,o,n=>Nat.beq f.offset o&&PQ P fs (o+P.cellsOf f.type) n
def TU:List AA->Option AA
 |[a]=>some a
 |_=>none
def toArg(P:Program)(t:TypeId)(cs:List AA):Option AA:=
 match P.underlying t with
 |some (.struct _)|some (.array _ _)=>some (.agg cs)
 |some .bool|some (.int _)|some .string|some (.pointer _)|some (.slice _)|some (.map _ _)|some (.interface _)=>TU cs
 |_=>none
def mW(W:World):Aj:=⟨λ_=>none,λg o=>match W.heap[g]? with|some (.cells cur _ _)=>cur[o]?|_=>none,λ_=>False⟩
section
variable {H:Type} {enc:TypeId×Value->H} {P:Program} {W:World}
theorem Vr:Rel P W (mW W) ⟨0,.leaf⟩ W:=by
 refine⟨Below.refl _ _,λid E hE=>by simp[mW]at hE,λid E o hE=>by simp[mW]at hE,λid E o hE=>by simp[mW]at hE,λid id' E E' o o' _ hE=>by simp[mW]at hE,λg o v J=>?_,λid E o hE=>by simp[mW]at hE,λg Z=>Z.elim,λid E o hE=>by simp[mW]at hE⟩;simp only[mW]at J;split at J
 ·rename_i cur e z hc;exact⟨cur,e,z,hc,J⟩
 ·cases J
theorem Ny{a:Addr}{n:Nat}{cs:List Value}(hc:W.cells? 0 a n=some cs)(hn:0<n):∃cur e fz,W.heap[a.block]?=some (.cells cur e fz)/\a.spot=none/\cs.length=n/\∀j,j<n->cur[a.off+j]?=cs[j]?:=by
  obtain⟨_,Q,hall⟩:=World.cells?_some hc;have O:=hall 0 hn;unfold World.cell? at O;have hadd:∀j,(a.add j).block=a.block:=λj=>by unfold Addr.add;split<;>rfl
  rw[hadd]at O;cases D:W.heap[a.block]? with
  | none => rw[D]at O;have:(0:Nat)<cs.length:=by omega
            rw[List.getElem?_eq_getElem this]at O;cases O
  | some o=>
    rw[D]at O;cases o with
    | cells cur e fz=>
      have U:(0:Nat)<cs.length:=by omega
      have K:a.spot=none:=by
        cases hsp:a.spot with
        |none=>rfl
        | some q=>
          have:(a.add 0).spot.isSome=true:=by simp[Addr.add,hsp]
          simp only[this,if_true]at O;rw[List.getElem?_eq_getElem U]at O;cases O
      refine⟨cur,e,fz,rfl,K,Q,λj hj=>?_⟩;have h1:=hall j hj;unfold World.cell? at h1;rw[hadd,D]at h1;have e1:(a.add j).spot=none:=by unfold Addr.add;split<;>simp[K]
      have e2:(a.add j).off=a.off+j:=by unfold Addr.add;split<;>simp_all
      simpa[e1,e2]using h1
    | _=>
      have:(0:Nat)<cs.length:=by omega
      simp only at O;rw[List.getElem?_eq_getElem this]at O;cases O
theorem Ig{α:Type}(z:Nat):∀(n:Nat) (l:List α),l.length=n*z->((List.range n).map λi=>(l.drop (i*z)).take z).flatten=l
 |0,l,h=>by have:l=[]:=qT.1 (by simpa using h);simp[this]
 | n+1,l,h=>by
  rw[List.range_succ_eq_map,yu,y4,List.map_map];have h2:(l.drop z).length=n*z:=by rw[yT,h,yl];omega
  have ih:=Ig z n (l.drop z) h2;have e:((λi=>List.take z (List.drop (i*z) l))∘Nat.succ)=λi=>List.take z (List.drop (i*z) (List.drop z l)):=by
   funext i;simp only[Function.comp,yN];congr 2;rw[qd];omega
  rw[e,ih];simp[zG]
theorem KL{α:Type}{n:Nat}:∀(fs:List Field) (o:Nat) (l:List α),PQ P fs o n=true->l.length=n->o<=n->(fs.map λf=>(l.drop f.offset).take (P.cellsOf f.type)).flatten=l.drop o/\o<=n
 |[],o,l,h,Q,ho=>by
  simp only[PQ]at h;have:=zD h;exact⟨by simp[<-Q,this],ho⟩
 | f::fs,o,l,h,Q,ho=>by
  simp only[PQ,zf]at h;have e:=zD h.1;by_cases hle:o+P.cellsOf f.type<=n
  ·have ih:=KL fs (o+P.cellsOf f.type) l h.2 Q hle;refine⟨?_,ho⟩;rw[yu,y4,ih.1,e,<-yN,zG]
  ·exfalso;have mono:∀(fs:List Field) (o n:Nat),PQ P fs o n=true->o<=n:=by
    intro fs
    induction fs with
    |nil=>intro o n h;simp only[PQ]at h;exact Nat.le_of_eq (zD h)
    |cons f fs ih=>intro o n h;simp only[PQ,zf]at h;have:=ih _ _ h.2;omega
   exact hle (mono fs _ _ h.2)
theorem Ma{α:Type}{z:Nat}(T:0<z):∀(css:List (List α)) (q:Nat),(∀c∈css,c.length=z)->css.flatten[q]?=(css[q / z]?).bind (·[q%z]?)
 |[],q,_=>by simp
 | c::css,q,h=>by
  have hc:c.length=z:=h c (by simp);rw[y4];by_cases hq:q<z
  ·rw[List.getElem?_append_left (by omega),Nat.div_eq_of_lt hq,y6 hq];rfl
  ·rw[List.getElem?_append_right (by omega),Ma T css (q - c.length) (λc' hc'=>h c' (by simp[hc'])),hc];have e1:q / z=(q - z) / z+1:=by rw[Nat.div_eq q z,zk ⟨T,by omega⟩]
   have e2:q%z=(q - z)%z:=Nat.mod_eq_sub_mod (by omega);rw[e1,e2];rfl
theorem Rm(a:Addr)(j:Nat):(a.add j).block=a.block:=by unfold Addr.add;split<;>rfl
theorem VD(a:Addr)(j:Nat):(a.add j).off=a.off+j:=by unfold Addr.add;split<;>simp_all
theorem add_zero(a:Addr):a.add 0=a:=by simp[Addr.add]
end
section
variable {P:Program}
def Hu(k:IntKind)(x:Int):Prop:=k.min<=x/\x<=k.max
theorem UG{α:Type}{e:α->List AA}{z:Nat}(E:Kf e z)(T:0<z)(xs:List α)(q:Nat):(Ag e xs)[q]?=(xs[q / z]?).bind λx=>(e x)[q%z]?:=by
 have h:=Ma (z:=z) T (xs.map e) q (λc hc=>by obtain⟨x,_,rfl⟩:=zN.1 hc;exact E.len x);rw[show(xs.map e).flatten=Ag e xs from by simp[Ag,List.flatMap]]at h;rw[h,List.getElem?_map];cases xs[q / z]?<;>rfl
def Pq(P:Program)(t:TypeId)(ts:List TypeId):Bool:=
 match P.underlying t with
 |some (.struct fs)=>PQ P fs.toList 0 (P.cellsOf t)&&(fs.toList.map (·.type)==ts)
 |_=>false
end
section
variable {H:Type} {enc:TypeId×Value->H} {P:Program} {W:World}
theorem NL{t:TypeId}{v:Value}{base:Nat}(J:Value.okWide P W .any base t v){m:Aj}{cs:List AA}{a:AA}(hc:BT m cs v.cells.toList)(V:toArg P t cs=some a):VR m a v:=by
 have one:∀{w:Value},v=w->w.cells.toList=[w]->TU cs=some a->VR m a v:=by
  intro w hw hcells I;subst hw;rw[hcells]at hc;unfold TU at I;split at I
  ·injection I with I;subst I;exact hc.2 0 _ _ rfl rfl
  ·cases I
 unfold toArg at V;split at V
 ·rename_i hu;obtain⟨c,hce,_⟩:=okWide_struct hu J;subst hce;injection V with V;subst V;exact BT.agg hc
 ·rename_i hu;unfold Value.okWide at J;rw[hu]at J;obtain⟨c,hce,_⟩:=J;subst hce;injection V with V;subst V;exact BT.agg hc
 ·rename_i hu;obtain⟨b,D⟩:=okWide_bool hu J;exact one D rfl V
 ·rename_i hu;obtain⟨b,D⟩:=okWide_int hu J;exact one D rfl V
 ·rename_i hu;obtain⟨b,D⟩:=okWide_string hu J;exact one D rfl V
 ·rename_i hu;obtain⟨b,D⟩:=okWide_pointer hu J;exact one D rfl V
 ·rename_i hu;obtain⟨b,c,d,D⟩:=okWide_slice hu J;exact one D rfl V
 ·rename_i hu;obtain⟨b,D⟩:=okWide_map hu J;exact one D rfl V
 ·rename_i hu;rcases okWide_iface hu J with D|⟨u,x,D⟩
  ·exact one D rfl V
  ·exact one D rfl V
 ·cases V
theorem Kj(Q:laidOutB P=true){W':World}(D:Below W.heap.size W W'):∀(ts:List TypeId) (vs:List Value) (ds:List (DataW H)) (ps:List MemPlace),(∀t∈ts,P.readableRec t=true/\t<P.types.size)->
  DataW.TrodAll enc P W 0 (λ_=>true) true ts vs ds ps->(∀x∈ps,x.block<W.heap.size)->DataW.TrodAll enc P W' 0 (λb=>decide (b<W.heap.size)) true ts vs ds ps
 |[],vs,ds,ps,_,hA,_=>by
  obtain⟨rfl,rfl,rfl⟩:=trodAll_nil hA;rfl
 |t::ts,vs,ds,ps,hr,hA,U=>by
  obtain⟨v,vs',d,ds',p,q,rfl,rfl,rfl,O,r0⟩:=trodAll_cons hA;have h1:=hr t (by simp);exact trodAll_cons_mk (Below.trod Q h1.1 h1.2 O D λx I=>U x (by simp[I])) (Kj Q D ts vs' ds' q (λt ht=>hr t (by simp[ht])) r0 λx I=>U x (by simp[I]))
theorem R6 {C:Eu} (hC:Fq C) (T:Bk C.B6 W) (Q:laidOutB C.P=true) {f:FuncId} {fn:Func} {c:Code} (hfn:C.P.funcs[f]?=some fn) (hn:(fn.name=="runtime.NumGoroutine")=false) (D:fn.body=some c)
  (hts:∀t∈fn.params.toList,C.P.readableRec t=true/\t<C.P.types.size) {tb:TypeId} (hrt:fn.resultTypes=#[tb]) (hub:C.P.underlying tb=some .bool)
  {s:ChangeSpec} (Y:s.vars=[]) {args:Array Value} {ds gs:List (DataW H)} {before:List MemPlace} (X:s.fn H (ds++[])={results:=[.lit (.bool true)],args:=ds})
  (hW:DataW.Whole enc C.P fn.params.toList s.vars false W args.toList ds gs before)
  {av:List AA} (hvs:BT (mW W) av args.toList) {h':AB} (hrun:CW C ⟨0,[]⟩ ⟨0,.leaf⟩ f av (.bool true) h'):
  Calls C.P f args W λe W'=>∃v,e=.returned v/\s.post enc C.P fn false true false false W args v W':=by
 have hW':=hW;obtain⟨p,q,hA0,hV,rfl,hfz,hnd⟩:=hW;rw[Y]at hV;have hV':gs=[]/\q=[]:=by cases gs<;>simp[DataW.TrodVars]at hV<;>simp[hV]
 obtain⟨rfl,rfl⟩:=hV';obtain⟨n,hn'⟩:=hrun;refine(QQ hC (n:=n) hn' hfn hn D T Vr hvs).mono λe W' ⟨v',he,m',_,hr',hv'⟩=>?_;subst he;have ev:v'=.bool true:=by cases hv';rfl
 subst ev;have bel:=hr'.below;have U:∀x∈p,x.block<W.heap.size:=λx I=>by simpa using hW'.lt x (by simpa using I)
 refine⟨_,rfl,ds,[],p++[],[],p,[],hW',?_,?_,?_,bel.frame _,λh=>by cases h⟩
 ·rw[X,hrt];exact trodAll_mk1 (shut_bool hub _)
 ·rw[X];exact Kj Q bel _ _ _ _ hts hA0 U
 ·rw[X,Y];rfl
theorem HH.start:HH ⟨0,[]⟩ ⟨0,.leaf⟩ [] []:=⟨λc hc=>(by cases hc),by simp[DZ],λi G=>(by simp[DZ]at G),λi G=>(by cases G),zr _⟩
end
end Go.Av
end
/-
 A part.
-/
section
namespace Go.Av
open Go.RowKit
set_option linter.unusedVariables false
def idxOf(s:List UInt8)(c:UInt8):Int:=match(List.range s.length).find? λi=>s[i]?==some c with|some i=>(i:Int)|none=> -1
def WH(h:AB):List AA->Option (AA×AB)
 |[.str s,.int .u8 c]=>if 0<=c/\c<=255 then some (.int .i64 (idxOf s (UInt8.ofNat c.toNat)),h)else none
 |_=>none
theorem N3{α:Type}{p q:α->Bool}:∀(l:List α),(∀x∈l,p x=q x)->l.find? p=l.find? q
 |[],_=>rfl
 |x::l,h=>by rw[List.find?_cons,List.find?_cons,h x (by simp),N3 l λy hy=>h y (by simp[hy])]
theorem idx_eq(s:List UInt8)(c:UInt8):((List.range (⟨⟨s⟩⟩:ByteArray).size).find? λi=>(⟨⟨s⟩⟩:ByteArray)[i]! ==c)=(List.range s.length).find? λi=>s[i]?==some c:=by
 refine N3 _ λi G=>?_;have G:i<s.length:=by have:=yf.1 G;exact this
 have:(⟨⟨s⟩⟩:ByteArray)[i]! =s[i]:=getElem!_pos (⟨⟨s⟩⟩:ByteArray) i G;rw[this,List.getElem?_eq_getElem G];rfl
end Go.Av
end
