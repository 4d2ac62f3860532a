/-
 A part.
-/
import Derived.Test.YthhonebaoidfgaaGreatDoorAvHH
set_option linter.unusedSimpArgs false
namespace Go.Av
set_option linter.unusedVariables false
structure Me{α:Type}(e:α->List AD)(z:Nat):Prop where
 len:∀x,(e x).length=z
 one:∀x,(e x).all AD.one=true
 can:∀x,(e x).map GV=e x
abbrev Am{α:Type}(e:α->List AD)(xs:List α):List AD:=xs.flatMap e
abbrev vs{α:Type}(e:α->List AD)(xs:List α):AD:=.Im xs.length (Am e xs)
def eI(k:IntKind)(x:Int):List AD:=[.int k x]
def eS(x:List UInt8):List AD:=[.str x]
def eY(x:UInt8):List AD:=[.int .u8 x.toNat]
def eL{α:Type}(e:α->List AD)(xs:List α):List AD:=[vs e xs]
theorem encI(k:IntKind):Me (eI k) 1:=⟨λ_=>rfl,λ_=>rfl,λ_=>rfl⟩
theorem encS:Me eS 1:=⟨λ_=>rfl,λ_=>rfl,λ_=>rfl⟩
theorem Jk:Me eY 1:=⟨λ_=>rfl,λ_=>rfl,λ_=>rfl⟩
section
variable {α:Type} {e:α->List AD} {z:Nat}
theorem Me.JM(E:Me e z):∀xs:List α,(Am e xs).length=xs.length*z
 |[]=>by simp
 |x::xs=>by simp only[Am,yD,zi,E.len,zG];rw[show(List.flatMap e xs).length=xs.length*z from E.JM xs,yC];omega
theorem Me.jr(E:Me e z)(xs:List α):(Am e xs).all AD.one=true:=by
 rw[zr];intro v J;obtain⟨x,_,I⟩:=yU.1 J;exact zr.1 (E.one x) v I
theorem Me.CQ(E:Me e z):∀xs:List α,(Am e xs).map GV=Am e xs
 |[]=>rfl
 |x::xs=>by simp only[Am,yD,qc,E.can];rw[show(List.flatMap e xs).map GV=_ from E.CQ xs]
theorem Me.take(E:Me e z):∀(xs:List α) (n:Nat),(Am e xs).take (n*z)=Am e (xs.take n)
 |[],n=>by simp
 |x::xs,0=>by simp
 |x::xs,n+1=>by
  simp only[Am,yD,qo];rw[yC,qy,xk,<-E.len x,qh,E.len x];congr 1;exact E.take xs n
theorem Me.drop(E:Me e z):∀(xs:List α) (n:Nat),(Am e xs).drop (n*z)=Am e (xs.drop n)
 |[],n=>by simp
 |x::xs,0=>by simp
 |x::xs,n+1=>by
  simp only[Am,yD,qn];rw[yC,qy,xk,<-E.len x,qg,E.len x];exact E.drop xs n
theorem Me.at_(E:Me e z){xs:List α}{i:Nat}{x:α}(h:xs[i]?=some x):((Am e xs).drop (i*z)).take z=e x:=by
 obtain⟨hi,I⟩:=List.getElem?_eq_some_iff.1 h;rw[E.drop,zT hi,I];simp only[Am,yD];rw[<-E.len x,xb]
end
def Kx{α:Type}(xs:List α)(i:Int):Option α:=if 0<=i then xs[i.toNat]? else none
def Wl{α:Type}(xs:List α)(lo hi:Option Int):Option (List α):=(XB xs.length lo hi).map λp=>(xs.drop p.1).take (p.2 - p.1)
section
variable (P:Program) (fr:Fr)
def ga:Op->Option (Nat×List AD×Nat×Int)
 | .indexAddr t x i=>
  match P.underlying t,ev fr x,ev fr i with
  |some (.slice e),.Im n cs,.int _ i=>(DK P e).map λz=>(n,cs,z,i)
  |_,_,_=>none
 |_=>none
def kL:Op->Option AD
 | .load t a=>
  match ev fr a with
  | .Aw cs=>JD P (some (.cells none 1 cs)) t 0
  |_=>none
 |_=>none
def bc:Op->Option (Nat×List AD×Nat×Option AD×Option AD)
 | .slice t x lo hi none=>
  match P.underlying t,ev fr x with
  |some (.slice e),.Im n cs=>(DK P e).map λz=>(n,cs,z,lo.map (ev fr),hi.map (ev fr))
  |_,_=>none
 |_=>none
def gZ:Op->Option (Nat×List AD)
 | .convert s d x=>
  match P.underlying s,P.underlying d,ev fr x with
  |some (.slice e),some .string,.Im n cs=>match P.underlying e with|some (.int .u8)=>some (n,cs)|_=>none
  |_,_,_=>none
 |_=>none
end
section
variable {C:Hv} {S:Self} {g:Gd} {h h1:AF} {fr:Fr} {op:Op} {α:Type} {e:α->List AD} {z:Nat}
theorem JB{xs:List α}{i:Int}{x:α}(E:Me e z)(U:z≠0)(G:ga C.P fr op=some (xs.length,Am e xs,z,i))(K:Kx xs i=some x):Bv C S g h fr op=some (.Aw (e x),h):=by
 unfold ga at G;split at G
 ·rename_i t y j;split at G
  ·rename_i el n cs k i' hu J hi;simp only[zk,ze]at G;obtain⟨z',X,rfl,rfl,rfl,rfl⟩:=G;unfold Kx at K;split at K
   ·rename_i h0;have hlt:=(List.getElem?_eq_some_iff.1 K).1;rw[Hk (by simp[Bd])];simp only[Jl,Bd,Ku,J,hi,Kq,hu];rw[zl ⟨h0,by omega⟩,X,za,zl ⟨E.JM xs,U⟩,E.at_ K];rfl
   ·cases K
  ·cases G
 ·cases G
theorem Jj{v:AD}(G:kL C.P fr op=some v):Bv C S g h fr op=some (v,h):=by
 unfold kL at G;split at G
 ·split at G
  ·rename_i cs J;rw[Hk (by simp[Bd])];simp only[Jl,Bd,EN,J,GG,Mh,G,zh]
  ·cases G
 ·cases G
theorem bH{xs ys:List α}{k k':IntKind}{lo hi:Option Int}(E:Me e z)(G:bc C.P fr op=some (xs.length,Am e xs,z,lo.map (.int k ·),hi.map (.int k' ·)))(K:Wl xs lo hi=some ys):Bv C S g h fr op=some (vs e ys,h):=by
 unfold bc at G;split at G
 ·rename_i t y lo0 hi0;split at G
  ·rename_i el n cs hu J;simp only[zk,ze]at G;obtain⟨z',X,rfl,rfl,rfl,e1,e2⟩:=G;unfold Wl at K;simp only[zk]at K;obtain⟨⟨l,u⟩,M,rfl⟩:=K;have D:XB xs.length lo hi=some (l,u):=M;rw[<-O0 k k']at M;have hc:Bd C.P (.slice t y lo0 hi0 none)=1:=by simp only[Bd,hu]
   rw[Hk (by rw[hc];simp)];simp only[Jl,hc,EN,J,GG,Mh,TA,hu,X,za];rw[zl (E.JM xs),e1,e2,M];simp only[zh];rw[E.drop,E.take];have hle:l<=u/\u<=xs.length:=by
    unfold XB at D;split at D
    ·rename_i u';split at D
     ·rename_i hu';split at D
      ·rename_i l';split at D
       ·rename_i hl';injection D with D;injection D with a1 a2;omega
       ·cases D
      ·injection D with D;injection D with a1 a2;omega
     ·cases D
    ·split at D
     ·rename_i l';split at D
      ·rename_i hl';injection D with D;injection D with a1 a2;omega
      ·cases D
     ·injection D with D;injection D with a1 a2;omega
   have:(xs.drop l).length=xs.length - l:=yc;have hlen:((xs.drop l).take (u - l)).length=u - l:=by rw[zA];omega
   simp only[vs,hlen]
  ·cases G
 ·cases G
theorem Ow:∀l:List UInt8,bytesOf (Am eY l)=some l
 |[]=>rfl
 |b::l=>by
  simp only[Am,yD,eY,qw,bytesOf];rw[show bytesOf (List.flatMap eY l)=some l from Ow l];simp
theorem j7{xs:List UInt8}(G:gZ C.P fr op=some (xs.length,Am eY xs)):Bv C S g h fr op=some (.str xs,h):=by
 unfold gZ at G;split at G
 ·rename_i s0 d0 x0;split at G
  ·rename_i el n cs hu hd J;split at G
   ·rename_i he;simp only[zb,ze]at G;obtain⟨rfl,rfl⟩:=G;have hc:Bd C.P (.convert s0 d0 x0)=1:=by simp only[Bd,hu,hd]
    rw[Hk (by rw[hc];simp)];simp only[Jl,hc,EN,J,GG,Mh,SG,hu,hd,he];rw[zl (by have:=Jk.JM xs;simpa using this),Ow];rfl
   ·cases G
  ·cases G
 ·cases G
end
section
variable {g:Gd} {h:AF} {L F:List Ck} {α:Type} {e:α->List AD} {z:Nat}
theorem HH.to{h':AF}(a:HH g h L F)(e:h'=h):HH g h' L F:=e ▸ a
theorem HH.iG(E:Me e z)(U:z≠0)(a:HH g h L F)(k:Nat){r:Option Nat}{t:TypeId}{xs:List α}(hk:L[k]?=some (.Am r t (Am e xs))):EG h z xs.length (Ad r xs.length)=some (Am e xs):=DO a k hk (E.JM xs) U
theorem jH(E:Me e z)(h:AF)(xs:List α):EG h z xs.length (vs e xs)=some (Am e xs):=by
 unfold EG vs;simp only;rw[zl ⟨zw _,E.JM xs⟩,zB (by rw[E.JM xs];exact zw _)]
theorem S9(h:AF)(s:List UInt8):EG h 1 s.length (.str s)=some (Am eY s):=by
 unfold EG;simp only[if_true,yr];congr 1
 induction s with
 |nil=>rfl
 |cons b s ih=>simp[Am,eY];simpa[Am,eY]using ih
def L1(bytes n:Nat):Bool:=decide (n<=1099511627776/\n*bytes<=1099511627776)
theorem HH.Jm(E:Me e z)(U:z≠0)(a:HH g h L F)(k:Nat){r:Option Nat}{t:TypeId}{xs ys:List α}{new:List AD}{bytes m:Nat}{x:AD}(hk:L[k]?=some (.Am r t (Am e xs)))(I:EG h z m x=some new)(hc:new.map GV=Am e ys)(hm:m=ys.length)(M:L1 bytes (xs.length+m)=true):
  ∃r' h',Av.app t z bytes g h (GA r xs.length) m x=some (GA r' (xs++ys).length,h')/\HH g h' (L.set k (.Am r' t (Am e (xs++ys)))) F:=by
 subst hm;obtain⟨r',h',h1,h2⟩:=a.app k hk (E.JM xs) U I hc (E.JM ys) (of_decide_eq_true M) (E.jr xs) (E.jr ys);refine⟨r',h',by rw[h1,zi],?_⟩;have:Am e (xs++ys)=Am e xs++Am e ys:=by simp[Am]
 rw[this];exact h2
theorem HH.ir(E:Me e z)(U:z≠0)(a:HH g h L F)(k:Nat){r:Option Nat}{t:TypeId}{xs:List α}(hk:L[k]?=some (.Am r t (Am e xs))){i:Int}{x:α}(hi:Kx xs i=some x):
  ∃id,r=some id/\h.get id=some (.cells (some t) 2 (Am e xs))/\kb (GA r xs.length) z i=some (id,i.toNat*z)/\xs[i.toNat]?=some x:=by
 unfold Kx at hi;split at hi
 ·rename_i h0;have hlt:=(List.getElem?_eq_some_iff.1 hi).1;cases r with
  |none=>
   have hn:Am e xs=[]:=a.mem hk;exfalso;have h1:=E.JM xs;rw[hn]at h1;have h2:xs.length*z=0:=by simpa using h1.symm
   rcases qX.1 h2 with h|h
   ·omega
   ·exact U h
  |some id=>
   refine⟨id,rfl,a.mem hk,?_,hi⟩;simp only[GA,zh,kb];rw[lC,zl ⟨h0,by omega⟩];simp
 ·cases hi
theorem HH.row(a:HH g h L F)(k:Nat){r:Option Nat}{t:TypeId}{cs:List AD}(hk:L[k]?=some (.Am r t cs)){id:Nat}(er:r=some id):h.get id=some (.cells (some t) 2 cs):=by
 subst er;exact a.mem hk
theorem YV(E:Me e z){id:Nat}{gr:Option TypeId}{xs:List α}(V:h.get id=some (.cells gr 2 (Am e xs))){i:Nat}{x:α}(I:xs[i]?=some x)(o n:Nat)(hon:o+n<=z):GL h (id,i*z+o) n=some (((e x).drop o).take n):=by
 have hi:=(List.getElem?_eq_some_iff.1 I).1;have hle:(i+1)*z<=xs.length*z:=qj _ om;rw[yC,qy]at hle;unfold Av.GL DG;simp only[V];rw[zl ⟨by simp,by rw[E.JM xs];omega⟩,<-E.at_ I,<-qr];congr 1;generalize (Am e xs).drop (i*z)=l;rw[List.drop_take,xA,qC om]
theorem Pc(E:Me e z){id:Nat}{gr:Option TypeId}{xs:List α}(V:h.get id=some (.cells gr 2 (Am e xs))){i:Nat}{x:α}(I:xs[i]?=some x){o:Nat}{v:AD}(J:(e x)[o]?=some v):ld1 h (id,i*z+o)=some v:=by
 have ho:=(List.getElem?_eq_some_iff.1 J).1;have h1:=YV E V I o 1 (by rw[E.len]at ho;omega);unfold Av.GL at h1;unfold Av.ld1;rw[h1,zT ho,(List.getElem?_eq_some_iff.1 J).2];rfl
theorem YB{A m B new:List AD}{o:Nat}(h:o+new.length<=m.length):FY (A++(m++B)) (A.length+o) new=A++(FY m o new++B):=by
 unfold FY;have e1:(A++(m++B)).take (A.length+o)=A++m.take o:=by
  rw[qh,qA om]
 have e2:(A++(m++B)).drop (A.length+o+new.length)=m.drop (o+new.length)++B:=by
  rw[yG,qg,y9 om]
 rw[e1,e2];simp[zC]
theorem HH.mw(E:Me e z)(a:HH g h L F)(k:Nat){r:Option Nat}{t:TypeId}{xs:List α}(hk:L[k]?=some (.Am r t (Am e xs))){id:Nat}(er:r=some id){i:Nat}{x y:α}(I:xs[i]?=some x){o:Nat}{new:List AD}(G:FY (e x) o (new.map GV)=e y)(h1:new.all AD.one=true)(K:o+new.length<=z:=by decide):
  ∃h',Av.st g h (id,i*z+o) new=some h'/\HH g h' (L.set k (.Am r t (Am e (xs.set i y)))) F:=by
 have V:=a.row k hk er;have hi:=(List.getElem?_eq_some_iff.1 I).1;have hid:=h.CA V;have hle:(i+1)*z<=xs.length*z:=qj _ om;rw[yC,qy]at hle;have hm:g.may id=true:=a.OP hk (by rw[er];simp[Ck.ids]);refine⟨h.set id (.cells (some t) 2 (Am e (xs.set i y))),?_,?_⟩
 ·unfold Av.st EK;simp only[V];rw[zl ⟨hm,by rw[E.JM xs];omega,h1⟩];congr 2;have hsplit:Am e xs=Am e (xs.take i)++(e x++Am e (xs.drop (i+1))):=by
   conv=>lhs;rw[<-zI i xs,zT hi,(List.getElem?_eq_some_iff.1 I).2]
   simp[Am]
  have hlen:(Am e (xs.take i)).length=i*z:=by rw[E.JM,zA,qC om]
  have hset:Am e (xs.set i y)=Am e (xs.take i)++(e y++Am e (xs.drop (i+1))):=by
   rw[yV,zl hi];simp[Am]
  show Cs.cells (some t) 2 (FY _ _ (new.map GV))=_;rw[hsplit,hset,<-hlen,YB (by rw[E.len,yo];exact K),G]
 ·subst er;refine a.VQ hk (by simp) (λj _ hj=>h.CN _ hid (by simpa[Ck.ids]using hj)) (h.get_set_same _ hid) (λj hj=>.inl hj) (λj hj=>a.OP hk hj)
theorem MI{h1:AF}{a:Nat×Nat}{cs:List AD}{n:Nat}(G:st g h a cs=some h1)(K:cs.length=n):kZ n g h a cs=some h1:=by unfold kZ;rw[zl K];exact G
theorem dN(s:List UInt8):(s.map λb=>AD.int .u8 b.toNat)=Am eY s:=by
 induction s with
 |nil=>rfl
 |cons b s ih=>simp[Am,eY]at *;exact ih
def fV(c:Int):Option UInt8:=if 0<=c/\c<=255 then some (UInt8.ofNat c.toNat)else none
theorem bF{c:Int}{y:UInt8}(h:fV c=some y):c=(y.toNat:Int):=by
 unfold fV at h;split at h
 ·rename_i hc;injection h with h;subst h;have:(UInt8.ofNat c.toNat).toNat=c.toNat%256:=UInt8.toNat_ofNat';rw[this];omega
 ·cases h
theorem T6{C:Hv}{S:Self}{fr:Fr}{op:Op}{xs:List UInt8}(a:HH g h L F)(k:Nat){r:Option Nat}{t:TypeId}(hk:L[k]?=some (.Am r t (Am eY xs)))(G:cq C.P fr op=some ((GA r xs.length).r,xs.length)):Bv C S g h fr op=some (.str xs,h):=by
 refine kQ (s:=GA r xs.length) G ?_;have Z:=a.mem hk;unfold lR GA;cases r with
 |none=>
  have:Am eY xs=[]:=Z;have h1:=Jk.JM xs;rw[this]at h1;have:xs=[]:=zx (by simpa using h1.symm);subst this;rfl
 | some id=>
  have V:h.get id=some (.cells (some t) 2 (Am eY xs)):=Z;simp only[zh];by_cases h0:xs.length=0
  ·have:xs=[]:=zx h0;subst this;rw[zl h0,V];rfl
  ·rw[zj h0];unfold DG;simp only[V];have h1:=Jk.JM xs;rw[zl ⟨by simp,by rw[h1];omega⟩,yn,zB (by rw[h1];omega)];exact Ow xs
def kF(bytes:Nat)(n:Int):Bool:=decide (0<=n/\n<=1099511627776/\bytes*n<=1099511627776)
theorem Qv{x:α}:∀n,G2 (e x) n=Am e (List.replicate n x)
 |0=>rfl
 |n+1=>by rw[List.replicate_succ,Am,yD,G2,Qv n]
theorem bM{C:Hv}{S:Self}{fr:Fr}{op:Op}{h1:AF}{t:TypeId}{bytes:Nat}{n:Int}{x:α}(E:Me e z)(G:fe C.P fr op=some (t,bytes,e x,n,n))(M:kF bytes n=true)(T:some (h.push (.cells (some t) 2 (Am e (List.replicate n.toNat x))))=some h1):
  Bv C S g h fr op=some (Ad (some h.size) (List.replicate n.toNat x).length,h1):=by
 have M:=of_decide_eq_true M;have:=jy (S:=S) (g:=g) G (cs:=Am e (List.replicate n.toNat x)) (by unfold kf;rw[zl ⟨M.1,xr _,M.2.1,M.2.2⟩,Qv]) T;rw[this,zW];rfl
end
section
variable {g:Gd} {h h':AF} {L F:List Ck}
theorem HH.Oe(a:HH g h L F)(n:Nat):HH g h (L.take n) F:=by
 have G:(EO (L.take n++F)).Sublist (EO (L++F)):=by
  rw[Dk,Dk];refine List.Sublist.append ?_ (List.Sublist.refl _)
  conv=>rhs;rw[<-zI n L,Dk]
  exact List.sublist_append_left _ _
 exact⟨λc hc=>a.ok c (by rcases zu.1 hc with h|h;exact zu.2 (.inl (qi h));exact zu.2 (.inr h)),a.nd.sublist G,
  λi hi=>a.may i (by rw[<-zI n L,Dk];exact zu.2 (.inl hi)),a.BW,a.floor⟩
inductive aJ(R:List Ck):List Nat->Prop where
 |nil:aJ R []
 |cons {p:Nat} {ps:List Nat} {c:Ck} (k:Nat):R[k]?=some c->p∈c.ids->aJ R ps->aJ R (p::ps)
theorem aJ.mem{R:List Ck}{ps:List Nat}(h:aJ R ps):∀p∈ps,p∈EO R:=by
 induction h with
 |nil=>intro p W;cases W
 |cons k hk hm _ ih=>
  intro p W;rcases zF.1 W with rfl|W
  ·simp only[EO,yU];exact⟨_,zN hk,hm⟩
  ·exact ih p W
theorem HH.Ef(a:HH g h L F)(n:Nat){pr:List Nat}(W:aJ (L.drop n) pr):HH ⟨g.floor,pr++g.BW⟩ h (L.take n) (L.drop n++F):=by
 refine(a.cut n).kS (λi hi hn=>?_) (λi hi=>?_)
 ·have h1:=W.mem i hn;have h2:=a.nd;rw[<-zI n L,Dk,Dk,zC,yd]at h2;exact h2.2.2 i hi i (zu.2 (.inl h1)) rfl
 ·refine a.lt (i:=i) ?_;rw[<-zI n L,Dk,Dk];exact zu.2 (.inl (zu.2 (.inr (W.mem i hi))))
theorem HH.PV{pr:List Nat}{n:Nat}{L':List Ck}(a:HH g h L F)(b:HH ⟨g.floor,pr++g.BW⟩ h' L' (L.drop n++F)):HH g h' (L'++L.drop n) F:=
 a.glue b (λi hm=>by
  simp only[Gd.may,zf,zH,xv,zM]at hm⊢
  exact⟨hm.1,hm.2.2⟩) (λi hi=>zu.2 (.inr hi)) rfl
end
section
variable {C:Hv} {g:Gd} {h:AF} {f:FuncId}
theorem R4{args:List AD}{n:Nat}{rs:List ResultVar}{R:AD->AF->Prop}(O:Hj C.P f=some (n,rs))
  (T:AW C f g (Ps C.P f) (args++List.replicate (n - args.length) (.tuple [])) h (λe fr h'=>(e=.ret\/e=.normal)/\∃v,Mm C.P rs fr h'=some v/\R v h')):∃v h',SZ C g h f args v h'/\R v h':=by
 obtain⟨m,e,fr',h2,I,⟨hq,v,J,Y⟩⟩:=T.ex;exact⟨v,h2,dv O ⟨⟨m,e,fr',h2,I,⟨hq,J,rfl⟩⟩⟩,Y⟩
theorem iB{args args':List AD}{n:Nat}{rs:List ResultVar}{R:AD->AF->Prop}(hk:C.kind f=1)(hc:CQ (C.still f) args=args')(O:Hj C.P f=some (n,rs))
  (T:AW C f g (Ps C.P f) (args'++List.replicate (n - args'.length) (.tuple [])) h (λe fr h'=>(e=.ret\/e=.normal)/\∃v,Mm C.P rs fr h'=some v/\R v h')):∃v h',Cf C g h f args v h'/\R v h':=by
 obtain⟨v,h',M,Y⟩:=R4 O T;exact⟨v,h',jv hk hc M,Y⟩
theorem ia{args args':List AD}{n:Nat}{rs:List ResultVar}{R:AD->AF->Prop}(hk:C.kind f=7)(hc:CQ (C.still f) args=args')(O:Hj C.P f=some (n,rs))
  (T:AW C f g (Ps C.P f) (args'++List.replicate (n - args'.length) (.tuple [])) h (λe fr h'=>(e=.ret\/e=.normal)/\∃v,Mm C.P rs fr h'=some v/\∃v' h'',RP g h' v=some (v',h'')/\R v' h'')):∃v h',Cf C g h f args v h'/\R v h':=by
 obtain⟨v,h',M,v',h'',U,Y⟩:=R4 O T;exact⟨v',h'',kG hk hc M U,Y⟩
theorem iZ{args args':List AD}{n:Nat}{rs:List ResultVar}{R:AD->AF->Prop}(hk:C.kind f=8)(hc:CQ (C.still f) args=args')(O:Hj C.P f=some (n,rs))
  (T:TR C f g (H6 C.P f) (args'++List.replicate (n - args'.length) (.tuple [])) h (λe fr h'=>(e=.ret\/e=.normal)/\∃v,Mm C.P rs fr h'=some v/\R v h')):∃v h',Cf C g h f args v h'/\R v h':=by
 obtain⟨m,e,fr',h2,I,hq,v,J,Y⟩:=T.ex;refine⟨v,h2,⟨m+1,?_⟩,Y⟩;show JE C (DY C m) g h f args=_;unfold JE;rw[hk];simp only[hc];unfold Hj at O;unfold H6 at I;unfold Sg;split at O
 ·rename_i fn hfn;split at O
  ·rename_i c hcc;simp only[zb,ze]at O;obtain⟨rfl,rfl⟩:=O;simp only[hfn,hcc]at I⊢;rcases hq with rfl|rfl
   ·rw[I];simp only;rw[show Dz C.P fn fr' h2=some v from J];rfl
   ·rw[I];simp only;rw[show Dz C.P fn fr' h2=some v from J];rfl
  ·cases O
 ·cases O
theorem jD{c:Code}{Q:CT->Fr->AF->Prop}{args:List AD}{n:Nat}(ins:List (Nat×AD))(K:(args++List.replicate (n - args.length) (AD.tuple [])).length=n)(hi:ins.map (λp=>nth (args++List.replicate (n - args.length) (AD.tuple [])) p.1)=ins.map (·.2))
  (T:∀fr,Has fr n ins->TR C f g c fr h Q):TR C f g c (args++List.replicate (n - args.length) (.tuple [])) h Q:=T _ (Has.of_map K hi)
theorem lF{P:Program}{fr:Fr}{N:Nat}{l:List (Nat×AD)}{rs:List ResultVar}{v:AD}(H:Has fr N l)(hr:∀fr,Mm P rs (Da N l fr) h=some v):Mm P rs fr h=some v:=by
 have:=hr fr;rwa [Fx H]at this
theorem ln{fr:Fr}{N:Nat}{l:List (Nat×AD)}{t:Nat}{v:AD}(H:Has fr N l)(hr:∀fr,nth (Da N l fr) t=v):nth fr t=v:=by
 have:=hr fr;rwa [Fx H]at this
end
section
variable {g:Gd} {h:AF}
theorem P4(vs:List AD):RP g h (.tuple vs)=(Ox (OT g) vs h).map λr=>(.tuple r.1,r.2):=rfl
theorem PJ(cs:List AD):RP g h (.agg cs)=(Ox (KG g) cs h).map λr=>(.agg r.1,r.2):=rfl
theorem PR(r:Option Nat)(n:Nat):RP g h (Ad r n)=KG g h (Ad r n):=rfl
theorem PF(n:Nat)(cs:List AD):RP g h (.Im n cs)=some (.Im n cs,h):=rfl
theorem Pu(cs:List AD):OT g h (.agg cs)=(Ox (KG g) cs h).map λr=>(.agg r.1,r.2):=rfl
theorem NR(r:Option Nat)(n:Nat):OT g h (Ad r n)=KG g h (Ad r n):=rfl
theorem Ni(n:Nat)(cs:List AD):OT g h (.Im n cs)=some (.Im n cs,h):=rfl
theorem M3(k:IntKind)(n:Int):OT g h (.int k n)=some (.int k n,h):=rfl
theorem Nl(b:Bool):OT g h (.bool b)=some (.bool b,h):=rfl
theorem M7(s:List UInt8):OT g h (.str s)=some (.str s,h):=rfl
theorem M9:OT g h (.slice none 0)=some (.Im 0 [],h):=rfl
theorem NG(f:AF->AD->Option (AD×AF)):Ox f [] h=some ([],h):=rfl
theorem N2(f:AF->AD->Option (AD×AF))(v:AD)(vs:List AD):Ox f (v::vs) h=(match f h v with|some (v',h1)=>(Ox f vs h1).map λr=>(v'::r.1,r.2)|none=>none):=rfl
theorem Pl(k:IntKind)(n:Int):KG g h (.int k n)=some (.int k n,h):=rfl
theorem P5(b:Bool):KG g h (.bool b)=some (.bool b,h):=rfl
theorem PM(s:List UInt8):KG g h (.str s)=some (.str s,h):=rfl
theorem PG(n:Nat)(cs:List AD):KG g h (.Im n cs)=some (.Im n cs,h):=rfl
theorem PZ:KG g h (.slice none 0)=some (.Im 0 [],h):=rfl
end
structure Wk(w v:AD):Prop where
 c:GV w=v
 z:∀g h,KG g h w=some (v,h)
theorem lf{n:Nat}{cs:List AD}:Wk (.Im n cs) (.Im n cs):=⟨rfl,λ_ _=>rfl⟩
theorem kU:Wk (.slice none 0) (.Im 0 []):=⟨rfl,λ_ _=>rfl⟩
theorem Wk.c2{w:AD}{n:Nat}{cs:List AD}(a:Wk w (.Im n cs)):VF w=.Im n cs:=by
 have:=a.c;cases w<;>first|exact this|(cases this)
def gM:List (Nat×List Bool)->Nat->List Bool
 |[],_=>[]
 |(a,b)::l,f=>bif Nat.beq a f then b else gM l f
end Go.Av
